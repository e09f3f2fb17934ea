/-
  PLAIN LAWS about the models: no program in sight. Conditions: as each theorem states them.
-/
import Derived.Test.YtfiedbefaoeoaaaGasPlain16
set_option linter.unusedVariables false
set_option linter.unusedSimpArgs false
set_option linter.unusedSectionVars false
set_option linter.unnecessarySimpa false
namespace Go.Proofs.Ytfiedbefaoeoaaa
open Go Go.RowKit Go.Proofs Go.Proofs.Ytfiedbefaoeoaaa.E
theorem bif_ff {c x : Bool} (hc : c = false) (h : x = true) : (bif c then false else x) = true := by rw [hc]; exact h
theorem gas_tail {code more : List Int} (hc : ∀ y ∈ code, 0 ≤ y ∧ y ≤ 255) (hm : ∀ y ∈ more, 0 ≤ y ∧ y ≤ 255) (v5 : Unit) : (bif ((((m_impl_JunctionShares (m_spec_R8Mine more) (m_spec_R8Flows code (m_spec_R8Mine more)) ([] : List gSource)).2 != 0) || (((m_impl_JunctionShares (m_spec_R8Mine more) (m_spec_R8Flows code (m_spec_R8Mine more)) ([] : List gSource)).1.length : Int) != (m_spec_R8Mine more).Junctions)) || ((m_impl_AirwayShares (m_spec_R8Mine more) (m_spec_R8Flows code (m_spec_R8Mine more)) ([] : List gSource)).2 != 0)) || (((m_impl_AirwayShares (m_spec_R8Mine more) (m_spec_R8Flows code (m_spec_R8Mine more)) ([] : List gSource)).1.length : Int) != ((m_spec_R8Flows code (m_spec_R8Mine more)).length : Int)) then false else LOOP (m_laws_FnGas_b1 code more v5) (fun (x1 : Int) => LOOP (m_laws_FnGas_b2 code more v5 x1) (fun (x2 : Int) => true) ((((m_impl_AirwayShares (m_spec_R8Mine more) (m_spec_R8Flows code (m_spec_R8Mine more)) ([] : List gSource)).1.length : Int) - 0 : Int).toNat + 1) 0) ((((m_impl_JunctionShares (m_spec_R8Mine more) (m_spec_R8Flows code (m_spec_R8Mine more)) ([] : List gSource)).1.length : Int) - 0 : Int).toNat + 1) 0) = true := by
  have hM := r8mine_in hm
  have hF := r8flows_in hc hm
  have hz := junc_zero hM hF
  have hl := shares_lenI (list := []) hM hF
  refine bif_ff ?_ ?_
  · rw [junc_is hc hm, ends_is hc hm]
    have e1 := endShares_len (m := m_spec_R8Mine more) hF (list := []) (js := m_impl_Mine_junctionShares (m_spec_R8Mine more) (m_spec_R8Flows code (m_spec_R8Mine more)) [])
    have e2 := hF.1
    simp only [bne_self_eq_false, Bool.false_or, Bool.or_false, Bool.or_eq_false_iff, bne_eq_false_iff_eq]
    omega
  · rw [zeros_loop (xs := (m_impl_JunctionShares (m_spec_R8Mine more) (m_spec_R8Flows code (m_spec_R8Mine more)) ([] : List gSource)).1) (fun rec i => rfl) (fun j j0 j1 => by
      rw [junc_is hc hm] at j1 ⊢
      exact hz j j0 (by simp only at j1; omega))]
    rw [zeros_loop (xs := (m_impl_AirwayShares (m_spec_R8Mine more) (m_spec_R8Flows code (m_spec_R8Mine more)) ([] : List gSource)).1) (fun rec i => rfl) (fun j j0 j1 => by
      rw [ends_is hc hm] at j1 ⊢
      exact at_all (ends_zero hM hF hz) ⟨j0, j1⟩)]
theorem law_FnGas (code : List Int) (more : List Int) (hp1 : code.length ≤ 9223372036854775807 ∧ ∀ y ∈ code, 0 ≤ y ∧ y ≤ 255) (hp2 : more.length ≤ 9223372036854775807 ∧ ∀ y ∈ more, 0 ≤ y ∧ y ≤ 255) : m_laws_FnGas code more = true := by
  have hc := hp1.2
  have hm := hp2.2
  have a := r8Wide_rng hc (k := 0) (n := 60000) (by omega)
  have b := r8Wide_rng hc (k := 2) (n := 20000) (by omega)
  have d := r8Wide_rng hc (k := 4) (n := 60000) (by omega)
  have tail := gas_tail hc hm ()
  simp only [m_laws_FnGas, JN]
  cases m_laws_r8Long code more with
  | true => rfl
  | false =>
    simp only [Bool.cond_false]
    generalize m_laws_r8Wide code 0 60000 = A at a ⊢
    generalize m_laws_r8Wide code 2 20000 = B at b ⊢
    generalize m_laws_r8Wide code 4 60000 = D at d ⊢
    rw [wr64 (n := 10 * A) (by omega), wr64 (n := 1 + B) (by omega), wr64 (n := 1 + B + 1) (by omega), wr64 (n := 1 + D) (by omega)]
    rw [shareFor_is (r := 10 * A) (q := 1 + B) (by omega) (by omega), shareFor_is (r := 10 * A) (q := 1 + B + 1) (by omega) (by omega)]
    refine bif_ff ?_ ?_
    · have h1 := up_mono (a := 100 * (10 * A)) (q := 1 + B) (r := 1 + B + 1) (by omega) (by omega) (by omega)
      have h2 := up_low (a := 100 * (10 * A)) (q := 1 + B) (by omega)
      have h3 := up_nonneg (a := 100 * (10 * A)) (q := 1 + B) (by omega) (by omega)
      rw [wr64 (n := 100 * (10 * A)) (by omega)]
      generalize upQ (100 * (10 * A)) (1 + B) = x at h1 h2 h3 ⊢
      generalize upQ (100 * (10 * A)) (1 + B + 1) = y at h1 ⊢
      have h4 : x < 1000000 → 0 ≤ x * (1 + B) ∧ x * (1 + B) ≤ 1000000 * 20001 := fun hx => by
        refine ⟨Int.mul_nonneg h3 (by omega), Int.le_trans (Int.mul_le_mul_of_nonneg_right (Int.le_of_lt hx) (by omega)) (Int.mul_le_mul_of_nonneg_left (by omega) (by omega))⟩
      have h5 : x < 1000000 → IntKind.wrap .i64 (x * (1 + B)) = x * (1 + B) := fun hx => wr64 (by have := h4 hx; omega)
      have hy : (if 1000000 < y then (1000000 : Int) else y) ≤ (if 1000000 < x then (1000000 : Int) else x) := by split <;> split <;> omega
      have hx1 : (if 1000000 < x then (1000000 : Int) else x) ≤ 1000000 := by split <;> omega
      have hx0 : 0 ≤ (if 1000000 < x then (1000000 : Int) else x) := by split <;> omega
      have hx2 : (if 1000000 < x then (1000000 : Int) else x) < 1000000 → (if 1000000 < x then (1000000 : Int) else x) = x := fun h => by split at h; omega; rw [if_neg (by assumption)]
      generalize (if 1000000 < x then (1000000 : Int) else x) = u at hy hx1 hx0 hx2 ⊢
      generalize (if 1000000 < y then (1000000 : Int) else y) = v at hy ⊢
      rw [Bool.eq_false_iff]
      intro hC
      simp only [bne_self_eq_false, Bool.false_or, Bool.or_eq_true, Bool.and_eq_true, decide_eq_true_eq] at hC
      rcases hC with ((h | h) | h) | ⟨h, h'⟩
      · omega
      · omega
      · omega
      · have e := hx2 h
        subst e
        rw [h5 h] at h'; omega
    · rcases dilute_is (r := 10 * A) (s := 1 + D) (by omega) (by omega) with hd | ⟨f, hd, hf, h1, h2⟩
      · rw [hd]; exact tail
      · rw [hd]
        simp only [beq_self_eq_true, Bool.cond_true]
        refine bif_ff ?_ tail
        have s1 := shareFor_is (r := 10 * A) (q := f) (by omega) (by omega)
        have s2 := share_is (r := 10 * A) (q := f) (by omega) (by omega)
        rw [← s2] at s1
        rw [s1]
        by_cases hf1 : 1 < f
        · have s3 := shareFor_is (r := 10 * A) (q := f - 1) (by omega) (by omega)
          have s4 := share_is (r := 10 * A) (q := f - 1) (by omega) (by omega)
          rw [← s4] at s3
          rw [wr64 (n := f - 1) (by omega), s3]
          have h3 := h2 hf1
          have g1 : ¬ f < 1 := by omega
          have g2 : ¬ 1 + D < m_impl_shareOf (10 * A) f := by omega
          have g3 : ¬ m_impl_shareOf (10 * A) (f - 1) ≤ 1 + D := by omega
          simp [g1, g2, g3]
        · have g1 : ¬ f < 1 := by omega
          have g2 : ¬ 1 + D < m_impl_shareOf (10 * A) f := by omega
          simp [g1, g2, hf1]

end Go.Proofs.Ytfiedbefaoeoaaa
