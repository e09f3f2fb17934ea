/-
  THE ENGINE, part Q: a call under a guard that turns one object of the caller's; a slot that holds a nil pointer until it is set.
  Conditions: none; all of it is over any program.
-/
import Derived.Test.YtibbfdojcdkopaaGreatEngN
set_option linter.unusedVariables false
set_option linter.unusedSimpArgs false
set_option linter.unusedSectionVars false
set_option linter.unnecessarySimpa false
namespace Go.Proofs.YtibbfdojcdkopaaGreat.E
open Go Go.RowKit
theorem Sat.put_none {n : Nat} {c : Cx} {κ : Ka} {s : S} {a : Act} {w : World} {d : Nat} {x : Value} (h : Sat n c κ s a w) (hd : d < n) :
    Sat n c κ ⟨(d, none) :: s.T, s.H⟩ (a.put (some d) x) w := by
  refine ⟨h.hd, by simp [Act.put, h.hn], fun t e' ht => ?_, h.mem⟩
  rw [get_cons] at ht
  simp only [Act.put]
  rw [getD_set (by rw [h.hn]; exact hd)]
  split
  · rename_i he; subst he; simp at ht
  · rename_i he; simp only [he, if_false] at ht; exact h.tm t e' ht
section
variable {P : Program} {n : Nat} {ops : Array Oper}
variable {s s' : S} {r : List Oper} {bs : List A} {g : Bool} {gks : List Nat} {d : Nat} {ty : TypeId} {pos : String} {af : Array Edge} {gd : Option (Nat × Bool)}
/-- a slot is set to a constant that nobody looks at -/
theorem q_unread {v : Value} (hgd : Gd ops s gd g gks) (hg : g = true) (hd : Nat.blt d n = true) (k : Lex P n ops r ⟨(d, none) :: s.T, s.H⟩ bs s') :
    Lex P n ops (⟨some d, .assign (.const v), ty, pos, af, gd⟩ :: r) s (⟨gks, [], [], [(d, none)], []⟩ :: bs) s' := by
  refine Lex.cons ?_ (by simp) k
  intro s1 ht hh hf c κ a w hc hs K Q hK
  have hgd' := hgd.agree (s' := s1) (fun t hm => ht t hm)
  have hd' : d < n := Nat.le_of_ble_eq_true hd
  rw [hgd'.wanted hs rfl, hg]
  simp only [if_true]
  unfold Oper.wp
  have hr : (execOp a.eval (⟨some d, .assign (.const v), ty, pos, af, gd⟩ : Oper)).run P w = .ok (.value v) w := rfl
  rw [hr]
  simp only [Oper.upon]
  exact hK _ _ κ (hs.put_none hd')
/-- a call under a guard, that turns one object of the caller's -/
theorem q_callGM {x : Operand} {f : FuncId} {caps : List V} {xs : List Operand} {ts : Array TypeId} {vs as : List V} {res : V} {full : Bool} {k0 ks kh : List Nat} {m0 L : Nat} {hin hout : List (Nat × Option O)} {v : V} {o' : O} (hgd : Gd ops s gd g gks)
    (hfv : g = true → Fv s true x f caps k0) (he : entB P f = true) (hx : g = true → Ods s true xs vs ks) (hp : Passes s full [(m0, L)] as (vs ++ caps) kh) (hcon : g = true → Con P f as hin res hout) (hin' : subH (rn [(m0, L)]) s hin) (hok : callOk [(m0, L)] [] hin hout res = true)
    (hro : full = true → res.atT.all V.noro = true) (hro' : full = true → ∀ p ∈ hout, ∀ o, p.2 = some o → ∀ u ∈ o.at_, u.noro = true) (hd : Nat.blt d n = true)
    (hv : g = true → res.ren (rn ([(m0, L)] ++ [])) = v ∧ hren (rn ([(m0, L)] ++ [])) hout = [(L, some o')]) (hn : g = false → get s.H L = some o')
    (k : Lex P n ops r ⟨(d, some (g, v)) :: s.T, (L, some o') :: (L, none) :: s.H⟩ bs s') :
    Lex P n ops (⟨some d, .call ⟨.value x, ⟨xs⟩, ts⟩, ty, pos, af, gd⟩ :: r) s (⟨((k0 ++ ks) ++ []) ++ gks, kh ++ [L], [], [(d, some (g, v))], [(L, some o'), (L, none)]⟩ :: bs) s' := by
  refine Lex.cons ?_ (by simp) k
  intro s1 ht hh hfr c κ a w hc hs K Q hK
  have hgd' := hgd.agree (s' := s1) (fun t hm => ht t (by simp [hm]))
  rw [hgd'.wanted hs rfl]
  cases hg : g with
  | true =>
    simp only [if_true]
    have h1 := AW (ops := ops) (ty := ty) (pos := pos) (af := af) (gd := none) (ts := ts) (d := d) (r := []) (bs := []) (n := n) (full := full) [(m0, L)] [] .n rfl (hfv hg) he (hx hg) hp (hcon hg) hin' hok rfl hro hro' hd Lex.nil
    have h2 := loc_of h1
    have h3 := h2 s1 (fun t hm => ht t (by simp only [List.mem_append] at hm ⊢; exact .inl hm)) hh (fun l hl => by simp at hl) c κ a w hc hs K Q ?_
    · exact h3
    · intro a' w' κ' hs'
      obtain ⟨e1, e2⟩ := hv hg
      refine hK a' w' κ' ?_
      rw [hg]
      simp only at hs'
      rw [e1, e2] at hs'
      exact hs'
  | false =>
    simp only [Bool.false_eq_true, if_false]
    have hd' : d < n := Nat.le_of_ble_eq_true hd
    refine hK _ _ κ ?_
    rw [hg]
    have := hs.put_same (e := (false, v)) (x := undef) hd' ⟨fun h => by simp at h, fun _ => rfl⟩
    refine Sat.congr (s := ⟨(d, some (false, v)) :: s1.T, s1.H⟩) (s' := ⟨(d, some (false, v)) :: s1.T, (L, some o') :: (L, none) :: s1.H⟩) (fun _ => rfl) (fun l => ?_) this
    show get ((L, some o') :: (L, none) :: s1.H) l = get s1.H l
    rw [get_cons]
    by_cases hl : L = l
    · subst hl
      rw [if_pos rfl]
      exact ((hh L (by simp)).trans (hn hg)).symm
    · rw [if_neg hl, get_cons, if_neg hl]
def agreeM (H H' : List (Nat × Option O)) : List (Nat × Nat) → Prop
  | [] => True
  | p :: r => get H' p.2 = get H p.2 ∧ agreeM H H' r
end
end Go.Proofs.YtibbfdojcdkopaaGreat.E
