/-
  PLAIN LAWS about the models: no program in sight. Conditions: as each theorem states them.
-/
import Derived.Test.YtandefcnbemclaaDoorExactSourceTextPlain4
set_option linter.unusedVariables false
set_option linter.unusedSimpArgs false
set_option linter.unusedSectionVars false
set_option linter.unnecessarySimpa false
namespace Go.Proofs.YtandefcnbemclaaDoor
open Go Go.RowKit Go.Proofs Go.Proofs.YtandefcnbemclaaDoor.E
theorem valid_eq (c : gSource) : m_impl_Source_valid c = m_spec_l13One c := by
  simp only [m_impl_Source_valid, m_spec_l13One, name_eq]; rfl
theorem one_rng {c : gSource} (h : m_spec_l13One c = true) : (c.Airway ≤ 100 ∧ -100 ≤ c.Airway) ∧ (c.Rate ≤ 100000000 ∧ -1000 ≤ c.Rate) ∧ c.Id.length ≤ 10 := by
  simp only [m_spec_l13One, Bool.and_eq_true] at h
  have h1 := l00In_imp h.1.2; have h2 := l00In_imp h.2; have h3 := name_len h.1.1
  exact ⟨by omega, by omega, h3⟩
theorem valid_len {c : gSource} (h : m_impl_Source_valid c = true) : c.Id.length ≤ 100 := by
  have := one_rng (by rw [← valid_eq]; exact h); omega
theorem SourceText_eq (c : gSource) : m_impl_SourceText c = m_spec_SourceText c := by
  simp only [m_impl_SourceText, m_spec_SourceText, valid_eq, m_impl_withId, m_spec_l13Text]
  cases h : m_spec_l13One c with
  | false => rfl
  | true =>
    simp only [Bool.not_true, Bool.cond_false]
    have hz := one_rng h
    rw [text_eq (by simp) (two_in (by omega) (by omega)) (by simp)]

end Go.Proofs.YtandefcnbemclaaDoor
