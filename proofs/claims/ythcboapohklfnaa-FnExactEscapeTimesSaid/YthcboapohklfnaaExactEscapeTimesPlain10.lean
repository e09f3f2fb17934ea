/-
  PLAIN LAWS about the models: no program in sight. Conditions: as each theorem states them.
-/
import Derived.Test.YthcboapohklfnaaExactEscapeTimesPlain9
set_option linter.unusedVariables false
set_option linter.unusedSimpArgs false
set_option linter.unusedSectionVars false
set_option linter.unnecessarySimpa false
namespace Go.Proofs.Ythcboapohklfnaa
open Go Go.RowKit Go.Proofs Go.Proofs.Ythcboapohklfnaa.E
/-! ## EscapeTimes -/
theorem EscapeTimes_eq (m : gMine) (arr : List Int) (blocked : Int) (c : gCrew) (start : Int) : m_impl_EscapeTimes m arr blocked c start = m_spec_EscapeTimes m arr blocked c start := by
  obtain ⟨h1, h2⟩ := escapeOf1 m arr blocked c start
  simp only [m_impl_EscapeTimes, m_spec_EscapeTimes, h1]
  cases hc : (m_spec_l19Ask m arr blocked c start != 0) with
  | true => rfl
  | false =>
    have h0 : m_spec_l19Ask m arr blocked c start = 0 := by simpa using hc
    have h := l19Ask_imp h0
    simp only [Bool.cond_false, h2 h0, times_eq h.1 h.2.1 h.2.2.1]
theorem EscapeTimes_len (m : gMine) (arr : List Int) (blocked : Int) (c : gCrew) (start : Int) : (m_spec_EscapeTimes m arr blocked c start).1.length ≤ 1048576 := by
  simp only [m_spec_EscapeTimes]
  cases hc : (m_spec_l19Ask m arr blocked c start != 0) with
  | true => simp
  | false =>
    have h := l19Ask_imp (by simpa using hc)
    have h1 := (times_SmB (arr := arr) (blocked := blocked) h.1 h.2.1 h.2.2.1).1
    have := h.1.1
    simp only [Bool.cond_false]; omega

end Go.Proofs.Ythcboapohklfnaa
