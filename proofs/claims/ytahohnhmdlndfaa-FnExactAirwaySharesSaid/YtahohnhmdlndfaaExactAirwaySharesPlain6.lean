/-
  PLAIN LAWS about the models: no program in sight. Conditions: as each theorem states them.
-/
import Derived.Test.YtahohnhmdlndfaaExactAirwaySharesPlain5
set_option linter.unusedVariables false
set_option linter.unusedSimpArgs false
set_option linter.unusedSectionVars false
set_option linter.unnecessarySimpa false
namespace Go.Proofs.Ytahohnhmdlndfaa
open Go Go.RowKit Go.Proofs Go.Proofs.Ytahohnhmdlndfaa.E
/-! ## AirwayShares -/
theorem AirwayShares_eq (m : gMine) (flows : List Int) (list : List gSource) : m_impl_AirwayShares m flows list = m_spec_AirwayShares m flows list := by
  simp only [m_impl_AirwayShares, m_spec_AirwayShares, gasCode_eq]
  cases hc : (m_spec_l13Ask m flows list != 0) with
  | true => rfl
  | false =>
    have h := l13Ask_imp (by simpa using hc)
    simp only [Bool.cond_false, ends_eq h.1 h.2.1]
theorem AirwayShares_len (m : gMine) (flows : List Int) (list : List gSource) : (m_spec_AirwayShares m flows list).1.length ≤ 1048576 := by
  simp only [m_spec_AirwayShares]
  cases hc : (m_spec_l13Ask m flows list != 0) with
  | true => simp
  | false =>
    have h := l13Ask_imp (by simpa using hc)
    simp only [Bool.cond_false]
    rw [ends_is h.2.1]
    have := h.1.2.1
    simp [irange_len]; omega

end Go.Proofs.Ytahohnhmdlndfaa
