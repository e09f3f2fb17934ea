/-
  PLAIN LAWS about the models: no program in sight. Conditions: as each theorem states them.
-/
import Derived.Test.YtibbfdojcdkopaaGreatPlacesPlain8
set_option linter.unusedVariables false
set_option linter.unusedSimpArgs false
set_option linter.unusedSectionVars false
set_option linter.unnecessarySimpa false
namespace Go.Proofs.YtibbfdojcdkopaaGreat
open Go Go.RowKit Go.Proofs Go.Proofs.YtibbfdojcdkopaaGreat.E
/-! ## The reference's walks are the program's -/
theorem walk_rlx {m : AB} (hm : MineIn m) {a : List Int} (ha : SmB m.Junctions a) {e : Int × Int × Int} (he : EdW m.Junctions e) :
    (bif (decide (0 ≤ at' a e.1)) && ((decide (at' a e.2.1 < 0)) || (decide (IntKind.wrap .i64 (at' a e.1 + e.2.2) < at' a e.2.1))) then put' a e.2.1 (IntKind.wrap .i64 (at' a e.1 + e.2.2)) else a) = rlx (wkS m) e a := by
  have hJ := hm.1
  have h := (rlxW_SmI (safe := wkS m) hJ.2 he (x := (a, false)) (SmI.refl ha)).1
  rw [← h]
  have hs : ∀ t, wkS m e.2.1 t = true := fun t => wkS_yes _ t he.2.1.1 (by have := he.2.1.2; omega)
  simp only [rlxW, hs, Bool.and_true]
  cases (decide (0 ≤ at' a e.1)) && ((decide (at' a e.2.1 < 0)) || (decide (IntKind.wrap .i64 (at' a e.1 + e.2.2) < at' a e.2.1))) <;> rfl
theorem l20Walks_is {m : AB} {j speed : Int} (hm : MineIn m) (hj : 0 ≤ j ∧ j < m.Junctions) (hs : 10 ≤ speed ∧ speed ≤ 300) : Cj m j speed = wlk m.Junctions.toNat (wkS m) (wkE m speed) j := by
  have hJ := hm.1
  simp only [Cj]
  have h1 := LOOP_fori (b := CI m j speed) (k := fun (x1 : (List Int) × Int) => LOOP (Cn m j speed x1) (fun (x2 : (List Int) × Int) => x2.1) ((m.Junctions - 0 : Int).toNat + 1) (put' x1.1 j 0, 0)) (n := m.Junctions) (fun _ xs => xs ++ [-1]) (fun rec xs i h0 h1 => by
    simp only [CI, h1, decide_true, Bool.cond_true]) (fun rec xs => by simp [CI]) ((m.Junctions - 0 : Int).toNat + 1) 0 [] (by omega) (by omega) (by omega)
  rw [h1, rep_append, show (m.Junctions - 0 : Int).toNat = m.Junctions.toNat by omega]
  have hS : SmB m.Junctions (put' (List.replicate m.Junctions.toNat (-1 : Int)) j 0) := SmB.start hJ rfl hj (by omega)
  have hok := cwEs_ok hm (-1) hs
  have h2 := LOOP_foriI (b := Cn m j speed (List.replicate m.Junctions.toNat (-1), m.Junctions)) (k := fun (x2 : (List Int) × Int) => x2.1) (n := m.Junctions) (fun _ a => SmB m.Junctions a) (fun _ a => swp (wkS m) (wkE m speed) a) (fun rec a i hi0 hi ha => by
    simp only [Cn, hi, decide_true, Bool.cond_true]
    have h3 := LOOP_foriI (b := CH m j speed (List.replicate m.Junctions.toNat (-1), m.Junctions) rec (fun x2 => x2.1) (a, i)) (k := fun x3 => rec (x3.1, i + 1)) (n := (m.Airways.length : Int)) (fun _ a => SmB m.Junctions a) (fun k a => bif k == -1 then a else swp (wkS m) (cwE m speed k) a) (fun rc b k hk0 hk hb => by
      simp only [CH, hk, decide_true, Bool.cond_true, JN]
      have hkb : (k == -1) = false := by rw [beq_eq_false_iff_ne]; omega
      have ha' := hm.at (i := k) ⟨hk0, hk⟩
      have hw := walk_rng ha' hs
      unfold AirIn at ha'
      have e1 : EdW m.Junctions ((at' m.Airways k).From, (at' m.Airways k).To, cwW m speed k) := by simp only [EdW, cwW]; omega
      have e2 : EdW m.Junctions ((at' m.Airways k).To, (at' m.Airways k).From, cwW m speed k) := by simp only [EdW, cwW]; omega
      have g1 := walk_rlx hm hb (e := ((at' m.Airways k).From, (at' m.Airways k).To, Bf (at' m.Airways k) speed)) e1
      have hb' : SmB m.Junctions (rlx (wkS m) ((at' m.Airways k).From, (at' m.Airways k).To, Bf (at' m.Airways k) speed) b) := swp_SmB (es := [((at' m.Airways k).From, (at' m.Airways k).To, Bf (at' m.Airways k) speed)]) hJ.2 (fun e he => by simp at he; subst he; exact e1) hb
      have g2 := walk_rlx hm hb' (e := ((at' m.Airways k).To, (at' m.Airways k).From, Bf (at' m.Airways k) speed)) e2
      have hG : ∀ (c : Bool) (x y : List Int), (bif c then rc (x, k + 1) else rc (y, k + 1)) = rc ((bif c then x else y), k + 1) := fun c x y => by cases c <;> rfl
      rw [hkb]
      simp only [hG, Bool.cond_false]
      show _ = rc (rlx (wkS m) ((at' m.Airways k).To, (at' m.Airways k).From, Bf (at' m.Airways k) speed) (rlx (wkS m) ((at' m.Airways k).From, (at' m.Airways k).To, Bf (at' m.Airways k) speed) b), k + 1)
      try dsimp only at g1 g2
      cases hc1 : (decide (0 ≤ at' b (at' m.Airways k).From)) && ((decide (at' b (at' m.Airways k).To < 0)) || (decide (IntKind.wrap .i64 (at' b (at' m.Airways k).From + Bf (at' m.Airways k) speed) < at' b (at' m.Airways k).To))) with
      | true =>
        rw [hc1] at g1
        simp only [Bool.cond_true] at g1 ⊢
        rw [← g1] at g2 ⊢
        rw [← g2]
      | false =>
        rw [hc1] at g1
        simp only [Bool.cond_false] at g1 ⊢
        rw [← g1] at g2 ⊢
        rw [← g2]) (fun b k hk0 hk hb => by
      have hkb : (k == -1) = false := by rw [beq_eq_false_iff_ne]; omega
      rw [hkb]
      exact swp_SmB hJ.2 (fun e he => hok e (List.mem_flatMap.2 ⟨k, List.mem_filter.2 ⟨mem_irange.2 ⟨hk0, by omega⟩, by simp [hkb]⟩, he⟩)) hb) (fun rc b _ => by simp [CH]) (((m.Airways.length : Int) - 0 : Int).toNat + 1) 0 a (by omega) (by omega) (by omega) ha
    rw [h3, show ((m.Airways.length : Int) - 0 : Int).toNat = m.Airways.length by omega]
    have hsw : fori (fun k a => bif k == -1 then a else swp (wkS m) (cwE m speed k) a) m.Airways.length 0 a = swp (wkS m) (wkE m speed) a := swp_fori (arr := List.replicate m.Junctions.toNat (-1)) (m := m) (blocked := -1) (speed := speed) m.Airways.length 0 a
    rw [hsw]) (fun a i _ _ ha => swp_SmB hJ.2 hok ha) (fun rec a _ => by simp [Cn]) ((m.Junctions - 0 : Int).toNat + 1) 0 (put' (List.replicate m.Junctions.toNat (-1 : Int)) j 0) (by omega) (by omega) (by omega) hS
  rw [show (m.Junctions - 0 : Int).toNat = m.Junctions.toNat by omega, fori_swpsW] at h2
  exact h2

end Go.Proofs.YtibbfdojcdkopaaGreat
