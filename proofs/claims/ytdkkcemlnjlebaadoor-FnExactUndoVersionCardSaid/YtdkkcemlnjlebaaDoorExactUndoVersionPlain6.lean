/-
  PLAIN LAWS about the models: no program in sight. Conditions: as each theorem states them.
-/
import Derived.Test.YtdkkcemlnjlebaaDoorExactUndoVersionPlain5
set_option linter.unusedVariables false
set_option linter.unusedSimpArgs false
set_option linter.unusedSectionVars false
set_option linter.unnecessarySimpa false
namespace Go.Proofs.YtdkkcemlnjlebaaDoor
open Go Go.RowKit Go.Proofs Go.Proofs.YtdkkcemlnjlebaaDoor.E
theorem law_FnExactUndoVersion (aList : List gVersion) (aNumber : Int) (hp1 : aList.length ≤ 9223372036854775807 ∧ ∀ y ∈ aList, gVersion.ok y) (hp2 : -9223372036854775808 ≤ aNumber ∧ aNumber ≤ 9223372036854775807) : m_laws_FnExactUndoVersion aList aNumber = true := by
  simp only [m_laws_FnExactUndoVersion, toSetting_eq, toVersion_eq, toSettingS_eq, toVersionS_eq, eqVersionS_refl, eqVersion_refl, eqSettingS_refl, eqSetting_refl, UndoVersion_eq, bne_self_eq_false, strB_neq_self, Bool.or_self, Bool.or_false, Bool.false_or, Bool.not_true, Bool.cond_false]
  by_cases h1 : m_laws_szVersionS aList 1048576 < 0
  · simp [h1]
  have b1 := szVersionS_impB (a := aList) (l := 1048576) hp1 (by omega) (by omega) (by omega)
  have kk := (mark_versions (a := aList) (k := 1) (by omega) b1.1 (fun e he => (b1.2 e he).2.1)).2
  have hs := UndoVersion_small aList aNumber
  have hh := mark_versions (a := (m_spec_UndoVersion aList aNumber).1) (k := 1) (by omega) hs.1 hs.2
  simp [h1, kk, hh.1, hh.2]

end Go.Proofs.YtdkkcemlnjlebaaDoor
