/-
  PLAIN LAWS about the models: no program in sight. Conditions: as each theorem states them.
-/
import Derived.Test.YtandefcnbemclaaDoorExactCrewTextPlain5
set_option linter.unusedVariables false
set_option linter.unusedSimpArgs false
set_option linter.unusedSectionVars false
set_option linter.unnecessarySimpa false
namespace Go.Proofs.YtandefcnbemclaaDoor
open Go Go.RowKit Go.Proofs Go.Proofs.YtandefcnbemclaaDoor.E
theorem law_FnExactCrewText (aC : gCrew) (hp1 : gCrew.ok aC) : m_laws_FnExactCrewText aC = true := by
  simp only [m_laws_FnExactCrewText, toCrew_eq, CrewText_eq, bne_self_eq_false, strB_neq_self, Bool.or_self, Bool.or_false, Bool.false_or, Bool.not_true, Bool.cond_false]
  by_cases h1 : m_laws_szCrew aC 1048576 < 0
  · simp [h1]
  have a1 := szCrew_impA (a := aC) (l := 1048576) hp1 (by omega) (by omega) (by omega)
  have b1 := szCrew_impB (a := aC) (l := 1048576) hp1 (by omega) (by omega) (by omega)
  simp [h1]

end Go.Proofs.YtandefcnbemclaaDoor
