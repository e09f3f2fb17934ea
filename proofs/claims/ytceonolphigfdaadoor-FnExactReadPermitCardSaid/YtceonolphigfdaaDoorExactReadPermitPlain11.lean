/-
  PLAIN LAWS about the models: no program in sight. Conditions: as each theorem states them.
-/
import Derived.Test.YtceonolphigfdaaDoorExactReadPermitPlain10
set_option linter.unusedVariables false
set_option linter.unusedSimpArgs false
set_option linter.unusedSectionVars false
set_option linter.unnecessarySimpa false
namespace Go.Proofs.YtceonolphigfdaaDoor
open Go Go.RowKit Go.Proofs Go.Proofs.YtceonolphigfdaaDoor.E
/-! ## Numbers alone -/
theorem readNumbers_is (s : List UInt8) (hs : s.length ≤ 1048576) (many : Int) : ((m_spec_ReadList s).2 = true ∧ ((m_spec_ReadList s).1.length : Int) = many ∧ m_impl_readNumbers s many = ((m_spec_ReadList s).1, true)) ∨ (((!(m_spec_ReadList s).2) || (((m_spec_ReadList s).1.length : Int) != many)) = true ∧ (m_impl_readNumbers s many).2 = false) := by
  simp only [m_impl_readNumbers, readList_eq s hs]
  cases hc : ((!(m_spec_ReadList s).2) || (((m_spec_ReadList s).1.length : Int) != many)) with
  | true => exact .inr ⟨rfl, rfl⟩
  | false =>
    simp only [Bool.or_eq_false_iff, Bool.not_eq_false', bne_eq_false_iff_eq] at hc
    exact .inl ⟨hc.1, hc.2, rfl⟩
theorem readNumbers_len (s : List UInt8) (many : Int) (h : 0 ≤ many) : ((m_impl_readNumbers s many).1.length : Int) = many := by
  simp only [m_impl_readNumbers]
  cases hc : ((!(m_impl_ReadList s).2) || (((m_impl_ReadList s).1.length : Int) != many)) with
  | true => simp only [Bool.cond_true, List.length_replicate]; omega
  | false => simp only [Bool.or_eq_false_iff, bne_eq_false_iff_eq] at hc; exact hc.2

end Go.Proofs.YtceonolphigfdaaDoor
