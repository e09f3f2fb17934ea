/-
  PLAIN LAWS about the models: no program in sight. Conditions: as each theorem states them.
-/
import Derived.Test.YtchjibndocnnhaaCrewsPlain12
set_option linter.unusedVariables false
set_option linter.unusedSimpArgs false
set_option linter.unusedSectionVars false
set_option linter.unnecessarySimpa false
namespace Go.Proofs.Ytchjibndocnnhaa
open Go Go.RowKit Go.Proofs Go.Proofs.Ytchjibndocnnhaa.E
/-! ## ShiftFits -/
theorem someOk_eq (list : List gJob) (some_ : List Int) : m_impl_someOk list some_ = m_spec_l00Rises some_ 0 ((list.length : Int) - 1) := by
  rw [Bool.eq_iff_iff]
  have h1 := LOOP_all (b := m_impl_increasing_b1 some_) (n := some_.length) (fun rec k i _ => rfl) (k := fun _ => true) (((some_.length : Int) - 1 : Int).toNat + 1)
  have h2 := LOOP_all (b := m_spec_l00Rises_b1 some_ 0 ((list.length : Int) - 1)) (n := some_.length) (fun rec k i _ => rfl) (k := fun _ => true) (((some_.length : Int) - 0 : Int).toNat + 1) 0 (by omega) (by omega) (by omega)
  simp only [m_impl_someOk, Bool.and_eq_true, allWithin_iff, m_spec_l00Rises]
  rw [h2]
  simp only [Bool.or_eq_false_iff, Bool.not_eq_false', m_spec_l00In, Bool.and_eq_true, decide_eq_true_eq, Bool.and_eq_false_iff, decide_eq_false_iff_not]
  by_cases h0 : some_.length = 0
  · have : some_ = [] := List.length_eq_zero_iff.1 h0
    subst this
    simp [m_impl_increasing, LOOP, m_impl_increasing_b1]
  · have h1 := h1 1 (by omega) (by omega) (by omega)
    have e : m_impl_increasing some_ = true ↔ _ := h1
    rw [e]
    simp only [decide_eq_false_iff_not]
    constructor
    · rintro ⟨⟨h3, _⟩, h4⟩
      refine ⟨fun j hj0 hj => ⟨at_all h4 ⟨by omega, by omega⟩, ?_⟩, trivial⟩
      by_cases hj1 : 0 < (j : Int)
      · exact .inr (h3 j (by omega) hj)
      · exact .inl hj1
    · rintro ⟨h3, _⟩
      refine ⟨⟨fun j hj0 hj => ?_, trivial⟩, all_at.2 fun j hj => (h3 j (by omega) hj).1⟩
      rcases (h3 j (by omega) hj).2 with h | h
      · omega
      · exact h
theorem someOk_in {list : List gJob} {some_ : List Int} (h : m_impl_someOk list some_ = true) : ∀ y ∈ some_, 0 ≤ y ∧ y < list.length := by
  simp only [m_impl_someOk, Bool.and_eq_true, allWithin_iff] at h
  intro y hy
  have := h.2 y hy
  omega
theorem rises_in {some_ : List Int} {n : Int} (h : m_spec_l00Rises some_ 0 (n - 1) = true) : ∀ y ∈ some_, 0 ≤ y ∧ y < n := by
  have h2 := LOOP_all (b := m_spec_l00Rises_b1 some_ 0 (n - 1)) (n := some_.length) (fun rec k i _ => rfl) (k := fun _ => true) (((some_.length : Int) - 0 : Int).toNat + 1) 0 (by omega) (by omega) (by omega)
  have h3 := (h2.1 h).1
  refine all_at.2 fun j hj => ?_
  have := h3 j (by omega) hj
  simp only [Bool.or_eq_false_iff, Bool.not_eq_false', m_spec_l00In, Bool.and_eq_true, decide_eq_true_eq] at this
  omega
theorem ShiftFits_eq (m : gMine) (flows : List Int) (list : List gJob) (some_ : List Int) : m_impl_ShiftFits m flows list some_ = m_spec_ShiftFits m flows list some_ := by
  simp only [m_impl_ShiftFits, m_spec_ShiftFits, jobsCode_eq, someOk_eq]
  cases h1 : (m_spec_l23Ask m flows list == 0) with
  | false => rfl
  | true =>
    cases h2 : m_spec_l00Rises some_ 0 ((list.length : Int) - 1) with
    | false => rfl
    | true =>
      have h := l23Ask_imp (by simpa using h1)
      simp only [Bool.and_true, Bool.cond_true, Bool.true_and, fits_eq h.2.1]

end Go.Proofs.Ytchjibndocnnhaa
