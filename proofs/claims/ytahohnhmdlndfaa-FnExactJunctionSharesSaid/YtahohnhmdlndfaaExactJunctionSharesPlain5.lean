/-
  PLAIN LAWS about the models: no program in sight. Conditions: as each theorem states them.
-/
import Derived.Test.YtahohnhmdlndfaaExactJunctionSharesPlain4
set_option linter.unusedVariables false
set_option linter.unusedSimpArgs false
set_option linter.unusedSectionVars false
set_option linter.unnecessarySimpa false
namespace Go.Proofs.Ytahohnhmdlndfaa
open Go Go.RowKit Go.Proofs Go.Proofs.Ytahohnhmdlndfaa.E
/-! ## JunctionShares -/
theorem JunctionShares_eq (m : gMine) (flows : List Int) (list : List gSource) : m_impl_JunctionShares m flows list = m_spec_JunctionShares m flows list := by
  simp only [m_impl_JunctionShares, m_spec_JunctionShares, gasCode_eq]
  cases hc : (m_spec_l13Ask m flows list != 0) with
  | true => rfl
  | false =>
    have h := l13Ask_imp (by simpa using hc)
    simp only [Bool.cond_false, shares_eq h.1 h.2.1]
theorem JunctionShares_len (m : gMine) (flows : List Int) (list : List gSource) : (m_spec_JunctionShares m flows list).1.length ≤ 1048576 := by
  simp only [m_spec_JunctionShares]
  cases hc : (m_spec_l13Ask m flows list != 0) with
  | true => simp
  | false =>
    have h := l13Ask_imp (by simpa using hc)
    have h1 := shares_lenJ m flows list h.1
    have := h.1.1
    simp only [Bool.cond_false]; omega

end Go.Proofs.Ytahohnhmdlndfaa
