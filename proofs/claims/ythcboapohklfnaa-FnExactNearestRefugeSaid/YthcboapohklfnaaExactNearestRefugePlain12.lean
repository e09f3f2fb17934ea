/-
  PLAIN LAWS about the models: no program in sight. Conditions: as each theorem states them.
-/
import Derived.Test.YthcboapohklfnaaExactNearestRefugePlain11
set_option linter.unusedVariables false
set_option linter.unusedSimpArgs false
set_option linter.unusedSectionVars false
set_option linter.unnecessarySimpa false
namespace Go.Proofs.Ythcboapohklfnaa
open Go Go.RowKit Go.Proofs Go.Proofs.Ythcboapohklfnaa.E
theorem law_FnExactNearestRefuge (aM : gMine) (aArrivals : List Int) (aBlocked : Int) (aC : gCrew) (aStart : Int) (aList : List gRefuge) (hp1 : gMine.ok aM) (hp2 : aArrivals.length ≤ 9223372036854775807 ∧ ∀ y ∈ aArrivals, -9223372036854775808 ≤ y ∧ y ≤ 9223372036854775807) (hp3 : -9223372036854775808 ≤ aBlocked ∧ aBlocked ≤ 9223372036854775807) (hp4 : gCrew.ok aC) (hp5 : -9223372036854775808 ≤ aStart ∧ aStart ≤ 9223372036854775807) (hp6 : aList.length ≤ 9223372036854775807 ∧ ∀ y ∈ aList, gRefuge.ok y) : m_laws_FnExactNearestRefuge aM aArrivals aBlocked aC aStart aList = true := by
  simp only [m_laws_FnExactNearestRefuge, toMine_eq, toCrew_eq, toInt64S_eq, toRefugeS_eq, toAirwayS_eq, toRefuge_eq, toAirway_eq, eqInt64S_refl, eqRefuge_refl, eqMine_refl, eqAirway_refl, eqAirwayS_refl, eqRefugeS_refl, NearestRefuge_eq, bne_self_eq_false, Bool.or_self, Bool.or_false, Bool.false_or, Bool.not_true, Bool.cond_false]
  by_cases h1 : 1048576 < (aArrivals.length : Int)
  · simp [h1]
  by_cases h2 : m_laws_szMine aM 1048576 < 0
  · simp [h2]
  have a2 := szMine_impA (a := aM) (l := 1048576) hp1 (by omega) (by omega) (by omega)
  have b2 := szMine_impB (a := aM) (l := 1048576) hp1 (by omega) (by omega) (by omega)
  by_cases h3 : m_laws_szCrew aC (m_laws_szMine aM 1048576) < 0
  · simp [h3]
  have a3 := szCrew_impA (a := aC) (l := (m_laws_szMine aM 1048576)) hp4 (by omega) (by omega) (by omega)
  have b3 := szCrew_impB (a := aC) (l := (m_laws_szMine aM 1048576)) hp4 (by omega) (by omega) (by omega)
  by_cases h4 : m_laws_szRefugeS aList (m_laws_szCrew aC (m_laws_szMine aM 1048576)) < 0
  · simp [h4]
  have a4 := szRefugeS_impA (a := aList) (l := (m_laws_szCrew aC (m_laws_szMine aM 1048576))) hp6 (by omega) (by omega) (by omega)
  have b4 := szRefugeS_impB (a := aList) (l := (m_laws_szCrew aC (m_laws_szMine aM 1048576))) hp6 (by omega) (by omega) (by omega)
  simp [h1, h2, h3, h4]

end Go.Proofs.Ythcboapohklfnaa
