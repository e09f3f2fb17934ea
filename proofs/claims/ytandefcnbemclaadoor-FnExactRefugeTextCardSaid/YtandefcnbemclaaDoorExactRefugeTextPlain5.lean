/-
  PLAIN LAWS about the models: no program in sight. Conditions: as each theorem states them.
-/
import Derived.Test.YtandefcnbemclaaDoorExactRefugeTextPlain4
set_option linter.unusedVariables false
set_option linter.unusedSimpArgs false
set_option linter.unusedSectionVars false
set_option linter.unnecessarySimpa false
namespace Go.Proofs.YtandefcnbemclaaDoor
open Go Go.RowKit Go.Proofs Go.Proofs.YtandefcnbemclaaDoor.E
theorem valid_eq (c : gRefuge) : m_impl_Refuge_valid c = m_spec_l20One c := by
  simp only [m_impl_Refuge_valid, m_spec_l20One, name_eq]; rfl
theorem one_rng {c : gRefuge} (h : m_spec_l20One c = true) : (c.Junction ≤ 100 ∧ -100 ≤ c.Junction) ∧ (c.Places ≤ 1000 ∧ -1000 ≤ c.Places) ∧ (c.Air ≤ 100000000 ∧ -1000 ≤ c.Air) ∧ c.Id.length ≤ 10 := by
  simp only [m_spec_l20One, Bool.and_eq_true] at h
  have h1 := l00In_imp h.1.1.2; have h2 := l00In_imp h.1.2; have h4 := l00In_imp h.2; have h3 := name_len h.1.1.1
  exact ⟨by omega, by omega, by omega, h3⟩
theorem valid_len {c : gRefuge} (h : m_impl_Refuge_valid c = true) : c.Id.length ≤ 100 := by
  have := one_rng (by rw [← valid_eq]; exact h); omega
theorem RefugeText_eq (c : gRefuge) : m_impl_RefugeText c = m_spec_RefugeText c := by
  simp only [m_impl_RefugeText, m_spec_RefugeText, valid_eq, m_impl_withId, m_spec_l20Text]
  cases h : m_spec_l20One c with
  | false => rfl
  | true =>
    simp only [Bool.not_true, Bool.cond_false]
    have hz := one_rng h
    rw [text_eq (by simp) (three_in (by omega) (by omega) (by omega)) (by simp)]

end Go.Proofs.YtandefcnbemclaaDoor
