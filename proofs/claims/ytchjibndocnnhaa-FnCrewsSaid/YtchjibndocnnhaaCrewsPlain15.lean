/-
  PLAIN LAWS about the models: no program in sight. Conditions: as each theorem states them.
-/
import Derived.Test.YtchjibndocnnhaaCrewsPlain14
set_option linter.unusedVariables false
set_option linter.unusedSimpArgs false
set_option linter.unusedSectionVars false
set_option linter.unnecessarySimpa false
namespace Go.Proofs.Ytchjibndocnnhaa
open Go Go.RowKit Go.Proofs Go.Proofs.Ytchjibndocnnhaa.E
/-! ## A pick more, a pick less -/
theorem app_cut {xs : List Int} {y : Int} (h : (xs.length : Int) ≤ 1000000) : pre' (xs ++ ([y] : List Int)) (IntKind.wrap .i64 (((xs ++ ([y] : List Int)).length : Int) - 1)) = xs := by
  rw [List.length_append, List.length_cons, List.length_nil, wr64 (by omega)]
  unfold pre'
  rw [show (((xs.length + (0 + 1) : Nat) : Int) - 1).toNat = xs.length by omega, List.take_left']
  rfl

end Go.Proofs.Ytchjibndocnnhaa
