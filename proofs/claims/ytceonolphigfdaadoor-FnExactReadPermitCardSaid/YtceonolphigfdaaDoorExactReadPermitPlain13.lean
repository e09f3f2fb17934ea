/-
  PLAIN LAWS about the models: no program in sight. Conditions: as each theorem states them.
-/
import Derived.Test.YtceonolphigfdaaDoorExactReadPermitPlain12
set_option linter.unusedVariables false
set_option linter.unusedSimpArgs false
set_option linter.unusedSectionVars false
set_option linter.unnecessarySimpa false
namespace Go.Proofs.YtceonolphigfdaaDoor
open Go Go.RowKit Go.Proofs Go.Proofs.YtceonolphigfdaaDoor.E
/-! ## One permit -/
theorem permit_eq (x : gPermit) : m_impl_Permit_valid x = m_spec_l26One x := by
  simp only [m_impl_Permit_valid, m_spec_l26One, name_eq, m_impl_kindOk, m_spec_l26Kind, m_spec_l14Airway, within_eq]
  generalize (m_spec_l01Name x.Id && m_spec_l00In x.Kind 1 4 && m_spec_l00In x.Airway 0 23) = p
  cases p with
  | false => simp
  | true =>
    simp only [Bool.true_and, m_spec_l00In]
    rw [Bool.eq_iff_iff]
    simp only [Bool.and_eq_true, decide_eq_true_eq]
    by_cases h1 : 0 ≤ x.Until ∧ x.Until ≤ 100000
    · by_cases h2 : 0 ≤ x.From ∧ x.From ≤ 99999
      · rw [wr64 (by omega), wr64 (by omega)]; omega
      · rw [wr64 (by omega)]; constructor
        · intro h; omega
        · intro h; omega
    · constructor
      · intro h; omega
      · intro h
        rw [wr64 (by omega)] at h; omega
/-- what a permit's numbers are -/
theorem one_imp {x : gPermit} (h : m_spec_l26One x = true) : 0 ≤ x.Airway ∧ 0 ≤ x.From ∧ x.From < x.Until ∧ x.Until ≤ 100000 ∧ m_spec_l00In x.Kind 1 4 = true := by
  simp only [m_spec_l26One, m_spec_l14Airway, m_spec_l26Kind, Bool.and_eq_true] at h
  obtain ⟨⟨⟨⟨_, hk⟩, ha⟩, hf⟩, hu⟩ := h
  simp only [m_spec_l00In, Bool.and_eq_true, decide_eq_true_eq] at ha hf hu
  rw [wr64 (by omega)] at hu
  exact ⟨ha.1, hf.1, by omega, hu.2, hk⟩

end Go.Proofs.YtceonolphigfdaaDoor
