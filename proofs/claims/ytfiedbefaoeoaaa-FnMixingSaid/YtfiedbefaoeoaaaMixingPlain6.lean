/-
  PLAIN LAWS about the models: no program in sight. Conditions: as each theorem states them.
-/
import Derived.Test.YtfiedbefaoeoaaaMixingPlain5
set_option linter.unusedVariables false
set_option linter.unusedSimpArgs false
set_option linter.unusedSectionVars false
set_option linter.unnecessarySimpa false
namespace Go.Proofs.Ytfiedbefaoeoaaa
open Go Go.RowKit Go.Proofs Go.Proofs.Ytfiedbefaoeoaaa.E
/-! ## What a mine is, by the program alone -/
def AirIn (J : Int) (a : gAirway) : Prop := 0 ≤ a.From ∧ a.From < J ∧ 0 ≤ a.To ∧ a.To < J ∧ a.From ≠ a.To ∧ 1 ≤ a.Length ∧ a.Length ≤ 10000 ∧ 50 ≤ a.Section ∧ a.Section ≤ 5000
def MineIn (m : gMine) : Prop := (1 ≤ m.Junctions ∧ m.Junctions ≤ 16) ∧ m.Airways.length ≤ 24 ∧ ∀ a ∈ m.Airways, AirIn m.Junctions a
theorem MineIn.at {m : gMine} {i : Int} (h : MineIn m) (hi : 0 ≤ i ∧ i < m.Airways.length) : AirIn m.Junctions (at' m.Airways i) := at_all h.2.2 hi

end Go.Proofs.Ytfiedbefaoeoaaa
