/-
  PLAIN LAWS about the models: no program in sight. Conditions: as each theorem states them.
-/
import Derived.Test.YtibbfdojcdkopaaExactAssignCrewsPlain4
set_option linter.unusedVariables false
set_option linter.unusedSimpArgs false
set_option linter.unusedSectionVars false
set_option linter.unnecessarySimpa false
namespace Go.Proofs.Ytibbfdojcdkopaa
open Go Go.RowKit Go.Proofs Go.Proofs.Ytibbfdojcdkopaa.E
/-! ## A list of the same number -/
theorem mul_rep {n c : Int} (hn : n = 1) (hc : 1 ≤ c ∧ c ≤ 16) : m_math_bits_Mul (IntKind.wrap .u64 n) (IntKind.wrap .u64 c) = (0, c) := by
  subst hn
  have : c = 1 ∨ c = 2 ∨ c = 3 ∨ c = 4 ∨ c = 5 ∨ c = 6 ∨ c = 7 ∨ c = 8 ∨ c = 9 ∨ c = 10 ∨ c = 11 ∨ c = 12 ∨ c = 13 ∨ c = 14 ∨ c = 15 ∨ c = 16 := by omega
  rcases this with h | h | h | h | h | h | h | h | h | h | h | h | h | h | h | h <;> subst h <;> decide
theorem rep_step {xs : List Int} {n c : Int} (h1 : (xs.length : Int) = c) (h2 : 1 ≤ n ∧ n ≤ c) (hc : c ≤ 16) (hlt : n < xs.length) :
    ((cpy xs n.toNat ((pre' xs n).take (min (pre' xs n).length ((xs.length : Int).toNat - n.toNat)))).length : Int) = c ∧ 1 ≤ IntKind.wrap .i64 (n + ((min (pre' xs n).length ((xs.length : Int).toNat - n.toNat) : Nat) : Int)) ∧ IntKind.wrap .i64 (n + ((min (pre' xs n).length ((xs.length : Int).toNat - n.toNat) : Nat) : Int)) ≤ c ∧ (c - IntKind.wrap .i64 (n + ((min (pre' xs n).length ((xs.length : Int).toNat - n.toNat) : Nat) : Int))).toNat < (c - n).toNat := by
  have hp : ((pre' xs n).length : Int) = n := pre_len ⟨by omega, by omega⟩
  rw [wr64 (by omega), cpy_len (by rw [List.length_take]; omega)]
  omega
theorem rep_eq {c : Int} (hc : 1 ≤ c ∧ c ≤ 16) : m_slices_Repeat_int64 [-1] c = List.replicate c.toNat (-1) := by
  have hm : m_math_bits_Mul (IntKind.wrap .u64 (([-1] : List Int).length : Int)) (IntKind.wrap .u64 c) = (0, c) := mul_rep rfl hc
  have hw : IntKind.wrap .i64 c = c := wr64 (by omega)
  simp only [m_slices_Repeat_int64, hm, hw, List.length_replicate]
  have hfin := LOOP_post (b := m_slices_Repeat_int64_b1 [-1] c) (k := fun x => x.1) (fun (x : List Int × Int) => x.1.length = c.toNat ∧ 1 ≤ x.2 ∧ x.2 ≤ c ∧ ∀ j : Int, 0 ≤ j → j < x.2 → at' x.1 j = -1) (fun x => (c - x.2).toNat) (fun _ r => r = List.replicate c.toNat (-1))
    (fun rec x hx ih => by
      obtain ⟨h1, h2, h3, h4⟩ := hx
      simp only [m_slices_Repeat_int64_b1]
      by_cases hi : x.2 < (x.1.length : Int)
      · simp only [hi, decide_true, Bool.cond_true]
        have hp : ((pre' x.1 x.2).length : Int) = x.2 := pre_len ⟨by omega, by omega⟩
        have hq : (min (pre' x.1 x.2).length ((x.1.length : Int).toNat - x.2.toNat)) ≤ (pre' x.1 x.2).length := Nat.min_le_left ..
        have hl : ((pre' x.1 x.2).take (min (pre' x.1 x.2).length ((x.1.length : Int).toNat - x.2.toNat))).length = min (pre' x.1 x.2).length ((x.1.length : Int).toNat - x.2.toNat) := by rw [List.length_take]; omega
        rw [wr64 (by omega)]
        refine ih _ ⟨?_, by dsimp only; omega, by dsimp only; omega, fun j hj0 hj => ?_⟩ (by dsimp only; omega)
        · show (cpy _ _ _).length = _
          rw [cpy_len (by rw [hl]; omega)]; exact h1
        · dsimp only at hj ⊢
          have hat : ∀ (a b : List Int) (j : Int), 0 ≤ j → j < a.length → at' (a ++ b) j = at' a j := fun a b j h0 h => by
            rw [at_getD, at_getD, List.getD_eq_getElem?_getD, List.getD_eq_getElem?_getD, List.getElem?_append_left (by omega)]
          have hat2 : ∀ (a b : List Int) (j : Int), (a.length : Int) ≤ j → at' (a ++ b) j = at' b (j - a.length) := fun a b j h => by
            rw [at_getD, at_getD, List.getD_eq_getElem?_getD, List.getD_eq_getElem?_getD, List.getElem?_append_right (by omega)]
            congr 2; omega
          have htk : ∀ (a : List Int) (q : Nat) (j : Int), 0 ≤ j → j < q → at' (a.take q) j = at' a j := fun a q j h0 h => by
            rw [at_getD, at_getD, List.getD_eq_getElem?_getD, List.getD_eq_getElem?_getD, List.getElem?_take, if_pos (by omega)]
          have ht : (x.1.take x.2.toNat).length = x.2.toNat := by rw [List.length_take]; omega
          simp only [cpy]
          rw [List.append_assoc]
          by_cases hjx : j < x.2
          · rw [hat _ _ _ hj0 (by omega), htk _ _ _ hj0 (by omega)]; exact h4 j hj0 hjx
          · rw [hat2 _ _ _ (by omega), hat _ _ _ (by omega) (by rw [hl]; omega), htk _ _ _ (by omega) (by omega)]
            simp only [pre']
            rw [htk _ _ _ (by omega) (by omega)]
            exact h4 _ (by omega) (by omega)
      · simp only [hi, decide_false, Bool.cond_false]
        refine list_ext_at (by simp [h1]) fun j hj0 hj => ?_
        rw [h4 j hj0 (by omega), at_rep hj0 (by omega)])
  refine hfin _ _ ⟨?_, ?_, ?_, ?_⟩ ?_
  · rw [cpy_len (by simp; omega)]; simp
  · simp; omega
  · simp; omega
  · intro j hj0 hj
    have : j = 0 := by simp at hj; omega
    subst this
    have e : min ([-1] : List Int).length c.toNat = 1 := by simp; omega
    simp only [cpy, e]
    rfl
  · simp; omega

end Go.Proofs.Ytibbfdojcdkopaa
