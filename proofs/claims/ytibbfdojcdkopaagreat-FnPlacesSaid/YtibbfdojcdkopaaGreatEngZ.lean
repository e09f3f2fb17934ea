/-
  THE ENGINE, part Z: an own row that a cell of an own box holds lies still from now on.
  Conditions: none; all of it is over any program.
-/
import Derived.Test.YtibbfdojcdkopaaGreatEngU
set_option linter.unusedVariables false
set_option linter.unusedSimpArgs false
set_option linter.unusedSectionVars false
set_option linter.unnecessarySimpa false
namespace Go.Proofs.YtibbfdojcdkopaaGreat.E
open Go Go.RowKit
section
variable {ρ : Type} {P : Program} {fn : Func} {n : Nat} {out : ρ → V × List (Nat × Option O)} {k : List (It ρ)} {r : ρ} {s s' : S}
theorem frz_rowV {c : Cx} (hc : c.ok) {κ : Ka} {a : Act} {w : World} {l m sz : Nat} {el : TypeId} {es us : List V} {x : Value} (hs : Sat n c κ s a w) (h1 : RepB c κ (.os l m) x) (ho : get s.H l = some (.row el sz es)) (hu : es.take m = us) (hm : us.length = m) : RepR (frzCx c κ w l) (.sl sz us) x := by
  have g := frz_grow hc hs ho
  have hho := hs.mem.hp l _ ho
  simp only [RepB] at h1
  simp only [Holds] at hho
  cases hkl : κ l with
  | none =>
    simp only [hkl] at h1 hho
    obtain ⟨h0, hx⟩ := h1
    subst h0
    have : us = [] := List.eq_nil_of_length_eq_zero hm
    subst this
    rw [hx]; exact .nil sz
  | some p =>
    obtain ⟨b, cap⟩ := p
    simp only [hkl] at h1 hho
    obtain ⟨hmc, hcm, hx⟩ := h1
    obtain ⟨cur, hb, hec, hcm2, hcs, hz, hrep⟩ := hho
    rw [hx]
    have hget : ∀ (j : Nat) u, (us.flatMap V.cells)[j]? = some u → (es.flatMap V.cells)[j]? = some u := fun j u hj => by
      have hsplit : es.flatMap V.cells = us.flatMap V.cells ++ (es.drop m).flatMap V.cells := by rw [← hu, ← List.flatMap_append, List.take_append_drop]
      rw [hsplit, List.getElem?_append_left (List.getElem?_eq_some_iff.1 hj).1]; exact hj
    have hcell : ∀ j u, (us.flatMap V.cells)[j]? = some u → ∃ y, cur[j]? = some y ∧ RepR (frzCx c κ w l) u y := fun j u hj => by
      obtain ⟨y, hy, hr⟩ := hrep j u (hget j u hj)
      exact ⟨y, hy, hr.grow hc g⟩
    subst hm
    refine .sl sz us ⟨b, 0, none⟩ cap (fun j => cur.toList.getD j undef) (fun _ => .inr ⟨cap, hkl⟩) hmc hcm (fun e he => hz e (by rw [← hu] at he; exact List.mem_of_mem_take he)) (fun j u hj => ?_) (fun j u hj => ?_)
    · obtain ⟨y, hy, _⟩ := hcell j u hj
      show w.cell? _ = _
      rw [add_lit, cell_of_row w b _ cur el (0, 0) hb]
      have : cur.toList.getD j undef = y := by
        rw [List.getD_eq_getElem?_getD, Array.getElem?_toList, hy]; rfl
      rw [this]; simpa using hy
    · obtain ⟨y, hy, hr⟩ := hcell j u hj
      have : cur.toList.getD j undef = y := by
        rw [List.getD_eq_getElem?_getD, Array.getElem?_toList, hy]; rfl
      rw [this]; exact hr
/-- the row that cell j of a box holds becomes a slice that is only read -/
theorem run_freezeC {l lb m sz : Nat} {te el : TypeId} {cs es us : List V} (j : Nat) (hb : get s.H l = some (.box te cs)) (hj : cs[j]? = some (.os lb m)) (ho : get s.H lb = some (.row el sz es)) (hne : Nat.beq lb l = false) (hu : es.take m = us) (hm : us.length = m) (hk : growOk k = true)
    (h : Run P fn n out k r ⟨s.T, (l, some (.box te (cs.set j (.sl sz us)))) :: (lb, none) :: s.H⟩) : Run P fn n out k r s := by
  intro c κ a w hc hs
  have g := frz_grow hc.ok hs ho
  have hs2 : Sat n (frzCx c κ w lb) κ ⟨s.T, (lb, none) :: s.H⟩ a w := frz_satL (ts := []) (v := .sl sz us) hc.ok hs ho (fun t h => by simp at h)
  have hb2 : get ((lb, none) :: s.H) l = some (.box te cs) := by
    rw [get_cons, if_neg (fun e => by rw [e] at hne; simp at hne)]; exact hb
  obtain ⟨b', cur, h0, h1, h2⟩ := hs2.mem.hp l _ hb2
  obtain ⟨b2, cur2, k0, k1, k2⟩ := hs.mem.hp l _ hb
  have eb : b2 = b' := by rw [k0] at h0; injection h0 with h0; injection h0
  subst eb
  have ec : cur2 = cur := by rw [k1] at h1; injection h1 with h1; injection h1
  subst ec
  obtain ⟨y, hy, hr⟩ := k2.get j _ hj
  have hv : RepC (frzCx c κ w lb) κ (.sl sz us) y := frz_rowV hc.ok hs hr ho hu hm
  have h3 := All2.set j h2 hv
  have h4 : cur2.toList.set j y = cur2.toList := by
    obtain ⟨hl, he⟩ := List.getElem?_eq_some_iff.1 hy
    rw [← he]; exact List.set_getElem_self hl
  rw [h4] at h3
  exact post_grow g hk (h _ κ a w (g.okP hc) ⟨hs2.hd, hs2.hn, hs2.tm, hs2.mem.write hb2 h0 (Ext.refl _ _) ⟨b2, cur2, h0, h1, h3⟩⟩)
/-- what a function makes lies still from then on: it counts as grown -/
theorem Con.frz {f : FuncId} {args : List V} {hin : List (Nat × Option O)} {m sz : Nat} {el : TypeId} {es us : List V} (h : Con P f args hin (.os 100 m) [(100, some (.row el sz es))]) (hu : es.take m = us) (hm : us.length = m) : ConG P f args hin (.sl sz us) [] := by
  intro c xs hc hargs hmem
  refine (h c xs hc hargs hmem).mono fun e w' ⟨x, κ', he, hx, hm'⟩ => ?_
  have ho : get ([(100, some (.row el sz es))] : List (Nat × Option O)) 100 = some (.row el sz es) := rfl
  have hs : Sat 0 c κ' ⟨[], [(100, some (.row el sz es))]⟩ ⟨#[], []⟩ w' := ⟨rfl, rfl, fun t e ht => by simp [get] at ht, hm'⟩
  have hs2 := frz_satL (ts := []) (v := .sl sz us) hc.ok hs ho (fun t h => by simp at h)
  refine ⟨x, _, κ', he, frz_grow hc.ok hs ho, frz_rowV hc.ok hs hx ho hu hm, ?_⟩
  have hg : ∀ l, get ([] : List (Nat × Option O)) l = get ((100, none) :: ([(100, some (.row el sz es))] : List (Nat × Option O))) l := fun l => by
    rw [get_cons]
    split
    · rfl
    · rename_i h1
      rw [get_cons, if_neg h1]
  exact hs2.mem.congr hg
end
end Go.Proofs.YtibbfdojcdkopaaGreat.E
