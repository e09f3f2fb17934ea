/-
  PLAIN LAWS about the models: no program in sight. Conditions: as each theorem states them.
-/
import Derived.Test.YtjieemgagalkjaaExactLastStartPlain14
set_option linter.unusedVariables false
set_option linter.unusedSimpArgs false
set_option linter.unusedSectionVars false
set_option linter.unnecessarySimpa false
namespace Go.Proofs.Ytjieemgagalkjaa
open Go Go.RowKit Go.Proofs Go.Proofs.Ytjieemgagalkjaa.E
theorem law_FnExactLastStart (aM : gMine) (aArrivals : List Int) (aBlocked : Int) (aC : gCrew) (aExits : List Int) (hp1 : gMine.ok aM) (hp2 : aArrivals.length ≤ 9223372036854775807 ∧ ∀ y ∈ aArrivals, -9223372036854775808 ≤ y ∧ y ≤ 9223372036854775807) (hp3 : -9223372036854775808 ≤ aBlocked ∧ aBlocked ≤ 9223372036854775807) (hp4 : gCrew.ok aC) (hp5 : aExits.length ≤ 9223372036854775807 ∧ ∀ y ∈ aExits, -9223372036854775808 ≤ y ∧ y ≤ 9223372036854775807) : m_laws_FnExactLastStart aM aArrivals aBlocked aC aExits = true := by
  simp only [m_laws_FnExactLastStart, toInt64S_eq, toMine_eq, toAirwayS_eq, toAirway_eq, toCrew_eq, eqMine_refl, eqAirwayS_refl, eqInt64S_refl, eqAirway_refl, LastStart_eq, bne_self_eq_false, strB_neq_self, Bool.or_self, Bool.or_false, Bool.false_or, Bool.not_true, Bool.cond_false]
  by_cases h1 : 1048576 < (aArrivals.length : Int)
  · simp [h1]
  by_cases h2 : 1048576 < (aExits.length : Int)
  · simp [h2]
  by_cases h3 : m_laws_szMine aM 1048576 < 0
  · simp [h3]
  have a3 := szMine_impA (a := aM) (l := 1048576) hp1 (by omega) (by omega) (by omega)
  have b3 := szMine_impB (a := aM) (l := 1048576) hp1 (by omega) (by omega) (by omega)
  by_cases h4 : m_laws_szCrew aC (m_laws_szMine aM 1048576) < 0
  · simp [h4]
  have a4 := szCrew_impA (a := aC) (l := (m_laws_szMine aM 1048576)) hp4 (by omega) (by omega) (by omega)
  have b4 := szCrew_impB (a := aC) (l := (m_laws_szMine aM 1048576)) hp4 (by omega) (by omega) (by omega)
  simp [h1, h2, h3, h4]

end Go.Proofs.Ytjieemgagalkjaa
