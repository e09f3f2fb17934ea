/-
  PLAIN LAWS about the models: no program in sight. Conditions: as each theorem states them.
-/
import Derived.Test.YtpkhodkdcmilkaaDoorExactReadDrillModels
set_option linter.unusedVariables false
set_option linter.unusedSimpArgs false
set_option linter.unusedSectionVars false
set_option linter.unnecessarySimpa false
namespace Go.Proofs.YtpkhodkdcmilkaaDoor
open Go Go.RowKit Go.Proofs Go.Proofs.YtpkhodkdcmilkaaDoor.E
/-! ## Sizes, copies, equality: printed by a program of this claim -/
theorem eqDrill_refl (a : gDrill) : m_laws_eqDrill a a = true := by simp [m_laws_eqDrill, strB]

end Go.Proofs.YtpkhodkdcmilkaaDoor
