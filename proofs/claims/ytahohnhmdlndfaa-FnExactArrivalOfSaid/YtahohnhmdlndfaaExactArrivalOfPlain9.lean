/-
  PLAIN LAWS about the models: no program in sight. Conditions: as each theorem states them.
-/
import Derived.Test.YtahohnhmdlndfaaExactArrivalOfPlain8
set_option linter.unusedVariables false
set_option linter.unusedSimpArgs false
set_option linter.unusedSectionVars false
set_option linter.unnecessarySimpa false
namespace Go.Proofs.Ytahohnhmdlndfaa
open Go Go.RowKit Go.Proofs Go.Proofs.Ytahohnhmdlndfaa.E
/-! ## ArrivalOf -/
theorem ArrivalOf_eq (m : gMine) (flows : List Int) (f : gFire) : m_impl_ArrivalOf m flows f = m_spec_ArrivalOf m flows f := by
  simp only [m_impl_ArrivalOf, m_spec_ArrivalOf, fireCode0]
  cases hc : (m_spec_l17Ask m flows f != 0) with
  | true => rfl
  | false =>
    have h := l17Ask_imp (by simpa using hc)
    simp only [Bool.cond_false, arrivals_eq h.1 h.2.1 h.2.2]
theorem ArrivalOf_len (m : gMine) (flows : List Int) (f : gFire) : (m_spec_ArrivalOf m flows f).1.length ≤ 1048576 := by
  simp only [m_spec_ArrivalOf]
  cases hc : (m_spec_l17Ask m flows f != 0) with
  | true => simp
  | false =>
    have h := l17Ask_imp (by simpa using hc)
    have h1 := (arrivals_SmB h.1 h.2.1 h.2.2).2
    have := h.1.1
    simp only [Bool.cond_false]; omega

end Go.Proofs.Ytahohnhmdlndfaa
