/-
  PLAIN LAWS about the models: no program in sight. Conditions: as each theorem states them.
-/
import Derived.Test.YtfiedbefaoeoaaaGasPlain15
set_option linter.unusedVariables false
set_option linter.unusedSimpArgs false
set_option linter.unusedSectionVars false
set_option linter.unnecessarySimpa false
namespace Go.Proofs.Ytfiedbefaoeoaaa
open Go Go.RowKit Go.Proofs Go.Proofs.Ytfiedbefaoeoaaa.E
/-! ## Shares and flows of the law -/
theorem shareFor_is {r q : Int} (hr : 0 ≤ r ∧ r ≤ 10000000) (hq : 1 ≤ q ∧ q ≤ 100000) : m_impl_ShareFor r q = (if 1000000 < upQ (100 * r) q then 1000000 else upQ (100 * r) q, 0) := by
  have h1 : m_impl_rateOk r = true := by simp only [m_impl_rateOk, m_impl_within, Bool.and_eq_true, decide_eq_true_eq]; exact hr
  have h2 : m_impl_within q 0 100000 = true := by simp only [m_impl_within, Bool.and_eq_true, decide_eq_true_eq]; omega
  have h3 : (q == 0) = false := by simp; omega
  simp only [m_impl_ShareFor, h1, h2, h3, Bool.not_true, Bool.or_self, Bool.cond_false]
  rw [share_is hr (by omega)]
theorem dilute_is {r s : Int} (hr : 0 ≤ r ∧ r ≤ 10000000) (hs : 1 ≤ s ∧ s ≤ 1000000) : m_impl_DiluteFlow r s = (0, 3) ∨ ∃ f, m_impl_DiluteFlow r s = (f, 0) ∧ (1 ≤ f ∧ f ≤ 100000) ∧ m_impl_shareOf r f ≤ s ∧ (1 < f → s < m_impl_shareOf r (f - 1)) := by
  have h1 : m_impl_rateOk r = true := by simp only [m_impl_rateOk, m_impl_within, Bool.and_eq_true, decide_eq_true_eq]; exact hr
  have h2 : m_impl_within s 1 1000000 = true := by simp only [m_impl_within, Bool.and_eq_true, decide_eq_true_eq]; exact hs
  simp only [m_impl_DiluteFlow, h1, h2, Bool.not_true, Bool.or_self, Bool.cond_false, m_impl_firstIn, m_impl_orNotFound]
  rw [show IntKind.wrap .i64 ((100000 : Int) - 1) = 99999 by rw [wr64 (by omega)]; rfl, show IntKind.wrap .i64 ((99999 : Int) + 1) = 100000 by rw [wr64 (by omega)]; rfl]
  have hf : ∀ i : Int, 0 ≤ i → i < 100000 → (m_impl_firstIn_1 i (fun (a0 : Int) => m_impl_DiluteFlow_1 a0 r s) 1 = true ↔ m_impl_shareOf r (i + 1) ≤ s) := fun i i0 i1 => by
    simp only [m_impl_firstIn_1, m_impl_DiluteFlow_1]
    rw [wr64 (n := 1 + i) (by omega), show 1 + i = i + 1 by omega, decide_eq_true_eq]
  have mono : ∀ q t : Int, 1 ≤ q → q ≤ t → t ≤ 100000 → m_impl_shareOf r t ≤ m_impl_shareOf r q := fun q t q0 q1 q2 => by
    rw [share_is hr (by omega), share_is hr (by omega)]
    have := up_mono (a := 100 * r) (by omega) q0 q1
    split <;> split <;> omega
  have hS := search_is (n := 100000) (by omega) (f := fun (a0 : Int) => m_impl_firstIn_1 a0 (fun (a0 : Int) => m_impl_DiluteFlow_1 a0 r s) 1) (fun i j i0 ij j1 hi => by
    have := (hf i i0 (by omega)).1 hi
    have h2 := mono (i + 1) (j + 1) (by omega) (by omega) (by omega)
    exact (hf j (by omega) j1).2 (by omega))
  generalize m_sort_Search 100000 (fun (a0 : Int) => m_impl_firstIn_1 a0 (fun (a0 : Int) => m_impl_DiluteFlow_1 a0 r s) 1) = k at hS
  obtain ⟨k0, k1, k2, k3⟩ := hS
  by_cases hk : k < 100000
  · right
    refine ⟨1 + k, ?_, by omega, ?_, fun h => ?_⟩
    · simp only [hk, decide_true, Bool.not_true, Bool.cond_false]
      rw [wr64 (by omega)]
    · have := (hf k k0 hk).1 (k3 k (Int.le_refl _) hk)
      rw [show 1 + k = k + 1 by omega]; exact this
    · have h4 := k2 (k - 1) (by omega) (by omega)
      have h5 : ¬ m_impl_shareOf r (k - 1 + 1) ≤ s := fun h6 => by rw [(hf (k - 1) (by omega) (by omega)).2 h6] at h4; simp at h4
      rw [show 1 + k - 1 = k - 1 + 1 by omega]; omega
  · left; simp [hk]
theorem sources_none {m : gMine} (h : m_impl_ValidMine m = true) : m_impl_ValidSources m [] = true := by
  simp [m_impl_ValidSources, h, LOOP, m_impl_ValidSources_b1]
theorem gas_code {m : gMine} {flows : List Int} (h : m_impl_ValidMine m = true) (hf : FlowsIn m flows) : m_impl_gasCode m flows [] = 0 := by
  simp only [m_impl_gasCode, sources_none h, hasFlows_iff.2 hf]; rfl
theorem zeros_loop {xs : List Int} {b : (Int → Bool) → (Int → Bool) → Int → Bool} {k : Int → Bool} (hb : ∀ rec i, b rec k i = bif decide (i < (xs.length : Int)) then bif (at' xs i) != 0 then false else rec (i + 1) else k i) (hz : ∀ j, 0 ≤ j → j < (xs.length : Int) → at' xs j = 0) : LOOP b k (((xs.length : Int) - 0 : Int).toNat + 1) 0 = k (xs.length : Int) := by
  refine LOOP_is (fun (x : Int) => 0 ≤ x ∧ x ≤ xs.length) (fun x => ((xs.length : Int) - x).toNat) (fun _ => k (xs.length : Int)) (fun rec x hI ih => ?_) (by omega) (by omega)
  rw [hb]
  by_cases hi : x < (xs.length : Int)
  · simp only [hi, decide_true, Bool.cond_true, hz x hI.1 hi, bne_self_eq_false, Bool.cond_false]
    exact ih _ (by omega) (by omega)
  · have : x = xs.length := by omega
    subst this
    simp [hi]
theorem junc_is {code more : List Int} (hc : ∀ y ∈ code, 0 ≤ y ∧ y ≤ 255) (hm : ∀ y ∈ more, 0 ≤ y ∧ y ≤ 255) : m_impl_JunctionShares (m_spec_R8Mine more) (m_spec_R8Flows code (m_spec_R8Mine more)) [] = (m_impl_Mine_junctionShares (m_spec_R8Mine more) (m_spec_R8Flows code (m_spec_R8Mine more)) [], 0) := by
  simp only [m_impl_JunctionShares, gas_code (r8mine_ok hm) (r8flows_in hc hm)]; rfl
theorem ends_is {code more : List Int} (hc : ∀ y ∈ code, 0 ≤ y ∧ y ≤ 255) (hm : ∀ y ∈ more, 0 ≤ y ∧ y ≤ 255) : m_impl_AirwayShares (m_spec_R8Mine more) (m_spec_R8Flows code (m_spec_R8Mine more)) [] = (m_impl_Mine_endShares (m_spec_R8Mine more) (m_spec_R8Flows code (m_spec_R8Mine more)) [] (m_impl_Mine_junctionShares (m_spec_R8Mine more) (m_spec_R8Flows code (m_spec_R8Mine more)) []), 0) := by
  simp only [m_impl_AirwayShares, gas_code (r8mine_ok hm) (r8flows_in hc hm)]; rfl
theorem junc_le {code more : List Int} (hc : ∀ y ∈ code, 0 ≤ y ∧ y ≤ 255) (hm : ∀ y ∈ more, 0 ≤ y ∧ y ≤ 255) : (m_impl_JunctionShares (m_spec_R8Mine more) (m_spec_R8Flows code (m_spec_R8Mine more)) []).1.length ≤ 16 := by
  rw [junc_is hc hm]
  have h1 := r8mine_in hm
  have := shares_lenI (list := []) h1 (r8flows_in hc hm)
  have := h1.1
  simp only; omega
theorem ends_le {code more : List Int} (hc : ∀ y ∈ code, 0 ≤ y ∧ y ≤ 255) (hm : ∀ y ∈ more, 0 ≤ y ∧ y ≤ 255) : (m_impl_AirwayShares (m_spec_R8Mine more) (m_spec_R8Flows code (m_spec_R8Mine more)) []).1.length ≤ 24 := by
  rw [ends_is hc hm]
  have h1 := r8mine_in hm
  simp only
  rw [endShares_len (r8flows_in hc hm)]
  exact h1.2.1

end Go.Proofs.Ytfiedbefaoeoaaa
