/-
  PLAIN LAWS about the models: no program in sight. Conditions: as each theorem states them.
-/
import Derived.Test.YtdhehmaglhobjaaExactMedianSecondsPlain8
set_option linter.unusedVariables false
set_option linter.unusedSimpArgs false
set_option linter.unusedSectionVars false
set_option linter.unnecessarySimpa false
namespace Go.Proofs.Ytdhehmaglhobjaa
open Go Go.RowKit Go.Proofs Go.Proofs.Ytdhehmaglhobjaa.E
theorem law_FnExactMedianSeconds (aList : List gDrill) (aCrew : List UInt8) (hp1 : aList.length ≤ 9223372036854775807 ∧ ∀ y ∈ aList, gDrill.ok y) (hp2 : aCrew.length ≤ 9223372036854775807) : m_laws_FnExactMedianSeconds aList aCrew = true := by
  simp only [m_laws_FnExactMedianSeconds, toDrillS_eq, toDrill_eq, eqDrill_refl, eqDrillS_refl, MedianSeconds_eq, bne_self_eq_false, strB_neq_self, Bool.or_self, Bool.or_false, Bool.false_or, Bool.not_true, Bool.cond_false]
  by_cases h1 : 1048576 < (aCrew.length : Int)
  · simp [h1]
  by_cases h2 : m_laws_szDrillS aList 1048576 < 0
  · simp [h2]
  have a2 := szDrillS_impA (a := aList) (l := 1048576) hp1 (by omega) (by omega) (by omega)
  have b2 := szDrillS_impB (a := aList) (l := 1048576) hp1 (by omega) (by omega) (by omega)
  simp [h1, h2]

end Go.Proofs.Ytdhehmaglhobjaa
