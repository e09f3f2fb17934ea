/-
  PLAIN LAWS about the models: no program in sight. Conditions: as each theorem states them.
-/
import Derived.Test.YtbflomopgofkgaaExactApplyChangesPlain3
set_option linter.unusedVariables false
set_option linter.unusedSimpArgs false
set_option linter.unusedSectionVars false
set_option linter.unnecessarySimpa false
namespace Go.Proofs.Ytbflomopgofkgaa
open Go Go.RowKit Go.Proofs Go.Proofs.Ytbflomopgofkgaa.E
/-! ## Bounds -/
theorem l00In_imp {n l h : Int} (e : m_spec_l00In n l h = true) : l ≤ n ∧ n ≤ h := by
  simpa [m_spec_l00In] using e
theorem within_imp {n l h : Int} (e : m_impl_within n l h = true) : l ≤ n ∧ n ≤ h := by
  simpa [m_impl_within] using e

end Go.Proofs.Ytbflomopgofkgaa
