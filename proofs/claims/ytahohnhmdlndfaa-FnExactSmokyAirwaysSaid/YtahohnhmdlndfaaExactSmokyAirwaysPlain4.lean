/-
  PLAIN LAWS about the models: no program in sight. Conditions: as each theorem states them.
-/
import Derived.Test.YtahohnhmdlndfaaExactSmokyAirwaysPlain3
set_option linter.unusedVariables false
set_option linter.unusedSimpArgs false
set_option linter.unusedSectionVars false
set_option linter.unnecessarySimpa false
namespace Go.Proofs.Ytahohnhmdlndfaa
open Go Go.RowKit Go.Proofs Go.Proofs.Ytahohnhmdlndfaa.E
/-! ## From where to where a flow moves air -/
theorem ways_in {J : Int} {a : gAirway} (q : Int) (h : AirIn J a) : 0 ≤ (m_impl_Airway_ways a q).1 ∧ (m_impl_Airway_ways a q).1 < J ∧ 0 ≤ (m_impl_Airway_ways a q).2 ∧ (m_impl_Airway_ways a q).2 < J := by
  unfold AirIn at h
  simp only [m_impl_Airway_ways]
  by_cases hq : q < 0 <;> simp [hq] <;> omega
theorem start_in {J : Int} {a : gAirway} (q : Int) (h : AirIn J a) : 0 ≤ m_spec_l13Start a q ∧ m_spec_l13Start a q < J := by
  unfold AirIn at h
  simp only [m_spec_l13Start]
  by_cases hq : 0 < q <;> simp [hq] <;> omega
theorem ways_start {a : gAirway} {q : Int} (h : q ≠ 0) : (m_impl_Airway_ways a q).1 = m_spec_l13Start a q := by
  simp only [m_impl_Airway_ways, m_spec_l13Start]
  by_cases hq : q < 0
  · have : ¬ 0 < q := by omega
    simp [hq, this]
  · have : 0 < q := by omega
    simp [hq, this]
theorem ways_end {a : gAirway} {q : Int} (h : q ≠ 0) : (m_impl_Airway_ways a q).2 = m_spec_l13Start a (-q) := by
  simp only [m_impl_Airway_ways, m_spec_l13Start]
  by_cases hq : q < 0
  · have : 0 < -q := by omega
    simp [hq, this]
  · have : ¬ 0 < -q := by omega
    simp [hq, this]

end Go.Proofs.Ytahohnhmdlndfaa
