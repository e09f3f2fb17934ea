/-
  PLAIN LAWS about the models: no program in sight. Conditions: as each theorem states them.
-/
import Derived.Test.YtdkkcemlnjlebaaExactMergeVersionsPlain5
set_option linter.unusedVariables false
set_option linter.unusedSimpArgs false
set_option linter.unusedSectionVars false
set_option linter.unnecessarySimpa false
namespace Go.Proofs.Ytdkkcemlnjlebaa
open Go Go.RowKit Go.Proofs Go.Proofs.Ytdkkcemlnjlebaa.E
theorem law_FnExactMergeVersions (aList : List gVersion) (aA : Int) (aB : Int) (aMemo : List UInt8) (hp1 : aList.length ≤ 9223372036854775807 ∧ ∀ y ∈ aList, gVersion.ok y) (hp2 : -9223372036854775808 ≤ aA ∧ aA ≤ 9223372036854775807) (hp3 : -9223372036854775808 ≤ aB ∧ aB ≤ 9223372036854775807) (hp4 : aMemo.length ≤ 9223372036854775807) : m_laws_FnExactMergeVersions aList aA aB aMemo = true := by
  simp only [m_laws_FnExactMergeVersions, toSettingS_eq, toSetting_eq, toVersion_eq, toVersionS_eq, eqSetting_refl, eqVersionS_refl, eqVersion_refl, eqSettingS_refl, MergeVersions_eq, bne_self_eq_false, strB_neq_self, Bool.or_self, Bool.or_false, Bool.false_or, Bool.not_true, Bool.cond_false]
  by_cases h1 : 1048576 < (aMemo.length : Int)
  · simp [h1]
  by_cases h2 : m_laws_szVersionS aList 1048576 < 0
  · simp [h2]
  have b2 := szVersionS_impB (a := aList) (l := 1048576) hp1 (by omega) (by omega) (by omega)
  have kk := (mark_versions (a := aList) (k := 1) (by omega) b2.1 (fun e he => (b2.2 e he).2.1)).2
  have hs := MergeVersions_small aList aA aB aMemo
  have hh := mark_versions (a := (m_spec_MergeVersions aList aA aB aMemo).1) (k := 1) (by omega) hs.1 hs.2
  simp [h1, h2, kk, hh.1, hh.2]

end Go.Proofs.Ytdkkcemlnjlebaa
