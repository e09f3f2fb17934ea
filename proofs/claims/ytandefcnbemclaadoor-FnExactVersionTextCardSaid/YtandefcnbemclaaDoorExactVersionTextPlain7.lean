/-
  PLAIN LAWS about the models: no program in sight. Conditions: as each theorem states them.
-/
import Derived.Test.YtandefcnbemclaaDoorExactVersionTextPlain6
set_option linter.unusedVariables false
set_option linter.unusedSimpArgs false
set_option linter.unusedSectionVars false
set_option linter.unnecessarySimpa false
namespace Go.Proofs.YtandefcnbemclaaDoor
open Go Go.RowKit Go.Proofs Go.Proofs.YtandefcnbemclaaDoor.E
theorem law_FnExactVersionText (aV : gVersion) (hp1 : gVersion.ok aV) : m_laws_FnExactVersionText aV = true := by
  simp only [m_laws_FnExactVersionText, toVersion_eq, toSetting_eq, toSettingS_eq, eqSetting_refl, eqSettingS_refl, eqVersion_refl, VersionText_eq, bne_self_eq_false, strB_neq_self, Bool.or_self, Bool.or_false, Bool.false_or, Bool.not_true, Bool.cond_false]
  by_cases h1 : m_laws_szVersion aV 1048576 < 0
  · simp [h1]
  have a1 := szVersion_impA (a := aV) (l := 1048576) hp1 (by omega) (by omega) (by omega)
  have b1 := szVersion_impB (a := aV) (l := 1048576) hp1 (by omega) (by omega) (by omega)
  simp [h1]

end Go.Proofs.YtandefcnbemclaaDoor
