/-
  PLAIN LAWS about the models: no program in sight. Conditions: as each theorem states them.
-/
import Derived.Test.YtahohnhmdlndfaaExactSmokeFrontPlain10
set_option linter.unusedVariables false
set_option linter.unusedSimpArgs false
set_option linter.unusedSectionVars false
set_option linter.unnecessarySimpa false
namespace Go.Proofs.Ytahohnhmdlndfaa
open Go Go.RowKit Go.Proofs Go.Proofs.Ytahohnhmdlndfaa.E
/-! ## SmokeFront -/
theorem SmokeFront_eq (m : gMine) (flows : List Int) (f : gFire) (k t : Int) : m_impl_SmokeFront m flows f k t = m_spec_SmokeFront m flows f k t := by
  have hi : m_impl_indexValid_impl_Airway m.Airways k = m_spec_l00In k 0 ((m.Airways.length : Int) - 1) := by
    rw [index_eq, Bool.eq_iff_iff]; simp only [m_spec_l00In, Bool.and_eq_true, decide_eq_true_eq]; omega
  simp only [m_impl_SmokeFront, m_spec_SmokeFront, fireCode_eq, hi]
  cases (m_spec_l17More m flows f t == 1) with
  | true => rfl
  | false =>
    simp only [Bool.cond_false]
    cases hk : m_spec_l00In k 0 ((m.Airways.length : Int) - 1) with
    | false => rfl
    | true =>
      simp only [Bool.not_true, Bool.cond_false]
      cases hc : (m_spec_l17More m flows f t != 0) with
      | true => rfl
      | false =>
        have h := (l17More_imp (by simpa using hc)).1
        simp only [m_spec_l00In, Bool.and_eq_true, decide_eq_true_eq] at hk
        simp only [Bool.cond_false, arrivals_eq h.1 h.2.1 h.2.2, front_eq h.1 h.2.1 (m_spec_l17Arrival m flows f) (k := k) (by omega)]

end Go.Proofs.Ytahohnhmdlndfaa
