/-
  PLAIN LAWS about the models: no program in sight. Conditions: as each theorem states them.
-/
import Derived.Test.YtceonolphigfdaaDoorExactReadPermitModels
set_option linter.unusedVariables false
set_option linter.unusedSimpArgs false
set_option linter.unusedSectionVars false
set_option linter.unnecessarySimpa false
namespace Go.Proofs.YtceonolphigfdaaDoor
open Go Go.RowKit Go.Proofs Go.Proofs.YtceonolphigfdaaDoor.E
/-! ## Sizes, copies, equality: printed by a program of this claim -/
theorem eqPermit_refl (a : gPermit) : m_laws_eqPermit a a = true := by simp [m_laws_eqPermit, strB]

end Go.Proofs.YtceonolphigfdaaDoor
