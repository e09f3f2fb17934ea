/-
  PLAIN LAWS about the models: no program in sight. Conditions: as each theorem states them.
-/
import Derived.Test.YtjieemgagalkjaaExactLastStartPlain1
set_option linter.unusedVariables false
set_option linter.unusedSimpArgs false
set_option linter.unusedSectionVars false
set_option linter.unnecessarySimpa false
namespace Go.Proofs.Ytjieemgagalkjaa
open Go Go.RowKit Go.Proofs Go.Proofs.Ytjieemgagalkjaa.E
/-! ## Labels of what a closure holds -/
theorem labB_ro {C : List V} (h : C.all V.ro = true) : C.flatMap V.labB = [] := by
  rw [List.flatMap_eq_nil_iff]
  intro v hv
  have := List.all_eq_true.1 h v hv
  cases v <;> first | rfl | (simp [V.ro] at this)

end Go.Proofs.Ytjieemgagalkjaa
