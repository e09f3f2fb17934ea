/-
  PLAIN LAWS about the models: no program in sight. Conditions: as each theorem states them.
-/
import Derived.Test.YtpkkmkbafdadoaaExactFirstStartPlain4
set_option linter.unusedVariables false
set_option linter.unusedSimpArgs false
set_option linter.unusedSectionVars false
set_option linter.unnecessarySimpa false
namespace Go.Proofs.Ytpkkmkbafdadoaa
open Go Go.RowKit Go.Proofs Go.Proofs.Ytpkkmkbafdadoaa.E
theorem law_FnExactFirstStart (aM : gMine) (aList : List gPermit) (aX : gPermit) (hp1 : gMine.ok aM) (hp2 : aList.length ≤ 9223372036854775807 ∧ ∀ y ∈ aList, gPermit.ok y) (hp3 : gPermit.ok aX) : m_laws_FnExactFirstStart aM aList aX = true := by
  simp only [m_laws_FnExactFirstStart, toPermitS_eq, toAirway_eq, toMine_eq, toPermit_eq, toAirwayS_eq, eqAirwayS_refl, eqPermit_refl, eqAirway_refl, eqPermitS_refl, eqMine_refl, FirstStart_eq, bne_self_eq_false, Bool.or_self, Bool.or_false, Bool.false_or, Bool.not_true, Bool.cond_false]
  by_cases h1 : m_laws_szMine aM 1048576 < 0
  · simp [h1]
  have a1 := szMine_impA (a := aM) (l := 1048576) hp1 (by omega) (by omega) (by omega)
  have b1 := szMine_impB (a := aM) (l := 1048576) hp1 (by omega) (by omega) (by omega)
  by_cases h2 : m_laws_szPermitS aList (m_laws_szMine aM 1048576) < 0
  · simp [h2]
  have a2 := szPermitS_impA (a := aList) (l := (m_laws_szMine aM 1048576)) hp2 (by omega) (by omega) (by omega)
  have b2 := szPermitS_impB (a := aList) (l := (m_laws_szMine aM 1048576)) hp2 (by omega) (by omega) (by omega)
  by_cases h3 : m_laws_szPermit aX (m_laws_szPermitS aList (m_laws_szMine aM 1048576)) < 0
  · simp [h3]
  have a3 := szPermit_impA (a := aX) (l := (m_laws_szPermitS aList (m_laws_szMine aM 1048576))) hp3 (by omega) (by omega) (by omega)
  have b3 := szPermit_impB (a := aX) (l := (m_laws_szPermitS aList (m_laws_szMine aM 1048576))) hp3 (by omega) (by omega) (by omega)
  simp [h1, h2, h3]

end Go.Proofs.Ytpkkmkbafdadoaa
