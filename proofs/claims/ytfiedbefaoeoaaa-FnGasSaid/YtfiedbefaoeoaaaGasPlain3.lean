/-
  PLAIN LAWS about the models: no program in sight. Conditions: as each theorem states them.
-/
import Derived.Test.YtfiedbefaoeoaaaGasPlain2
set_option linter.unusedVariables false
set_option linter.unusedSimpArgs false
set_option linter.unusedSectionVars false
set_option linter.unnecessarySimpa false
namespace Go.Proofs.Ytfiedbefaoeoaaa
open Go Go.RowKit Go.Proofs Go.Proofs.Ytfiedbefaoeoaaa.E
/-! ## Halving a span -/
theorem srch_mid {i j : Int} (h0 : 0 ≤ i) (h1 : i < j) (h2 : j ≤ 1000000) : IntKind.wrap .i64 (Int.fdiv (IntKind.wrap .u64 (IntKind.wrap .i64 (i + j))) (2 ^ min (1 : Int).toNat 64)) = (i + j) / 2 := by
  have e1 : IntKind.wrap .i64 (i + j) = i + j := wr64 (by omega)
  have e2 : IntKind.wrap .u64 (i + j) = i + j := by
    have : IntKind.wrap .u64 (i + j) = (i + j) % 18446744073709551616 := by simp [IntKind.wrap, IntKind.signed, IntKind.bits]
    omega
  have e3 : ((2 : Int) ^ min (1 : Int).toNat 64) = 2 := by decide
  rw [e1, e2, e3, Int.fdiv_eq_ediv_of_nonneg _ (by omega)]
  exact wr64 (by omega)
theorem search_is {n : Int} (hn : 0 ≤ n ∧ n ≤ 1000000) {f : Int → Bool} (hf : ∀ i j, 0 ≤ i → i ≤ j → j < n → f i = true → f j = true) :
    0 ≤ m_sort_Search n f ∧ m_sort_Search n f ≤ n ∧ (∀ j, 0 ≤ j → j < m_sort_Search n f → f j = false) ∧ (∀ j, m_sort_Search n f ≤ j → j < n → f j = true) := by
  simp only [m_sort_Search]
  refine LOOP_post (fun (x : Int × Int) => 0 ≤ x.1 ∧ x.1 ≤ x.2 ∧ x.2 ≤ n ∧ (∀ q, 0 ≤ q → q < x.1 → f q = false) ∧ (∀ q, x.2 ≤ q → q < n → f q = true)) (fun x => (x.2 - x.1).toNat)
    (fun _ (r : Int) => 0 ≤ r ∧ r ≤ n ∧ (∀ j, 0 ≤ j → j < r → f j = false) ∧ (∀ j, r ≤ j → j < n → f j = true)) (fun rec x hI ih => ?_) _ _ ⟨by simp, by simp; omega, by simp, by intro q h1 h2; dsimp only at h2; omega, by intro q h1 h2; dsimp only at h1; omega⟩ (by dsimp only; omega)
  obtain ⟨i, j⟩ := x
  obtain ⟨h1, h2, h3, h4, h5⟩ := hI
  simp only at h1 h2 h3 h4 h5
  simp only [m_sort_Search_b1]
  by_cases hij : i < j
  · have hm := srch_mid h1 hij (by omega)
    simp only [hij, decide_true, Bool.cond_true, hm]
    cases hf' : f ((i + j) / 2) with
    | false =>
      simp only [Bool.not_false, Bool.cond_true]
      rw [wr64 (n := (i + j) / 2 + 1) (by omega)]
      refine ih _ ⟨by simp only; omega, by simp only; omega, by simp only; omega, ?_, h5⟩ (by simp only; omega)
      intro q hq1 hq2
      simp only at hq2
      cases hq : f q with
      | false => rfl
      | true => have := hf q ((i + j) / 2) hq1 (by omega) (by omega) hq; rw [hf'] at this; exact absurd this (by simp)
    | true =>
      simp only [Bool.not_true, Bool.cond_false]
      refine ih _ ⟨by simp only; omega, by simp only; omega, by simp only; omega, h4, ?_⟩ (by simp only; omega)
      intro q hq1 hq2
      simp only at hq1
      exact hf ((i + j) / 2) q (by omega) hq1 hq2 hf'
  · simp only [hij, decide_false, Bool.cond_false]
    have e : i = j := by omega
    subst e
    exact ⟨h1, h3, h4, h5⟩

end Go.Proofs.Ytfiedbefaoeoaaa
