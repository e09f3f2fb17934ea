/-
  PLAIN LAWS about the models: no program in sight. Conditions: as each theorem states them.
-/
import Derived.Test.YtibbfdojcdkopaaExactAssignCrewsPlain15
set_option linter.unusedVariables false
set_option linter.unusedSimpArgs false
set_option linter.unusedSectionVars false
set_option linter.unnecessarySimpa false
namespace Go.Proofs.Ytibbfdojcdkopaa
open Go Go.RowKit Go.Proofs Go.Proofs.Ytibbfdojcdkopaa.E
theorem law_FnExactAssignCrews (aM : gMine) (aArrivals : List Int) (aBlocked : Int) (aCrews : List gCrew) (aSizes : List Int) (aStart : Int) (aList : List gRefuge) (aBudget : Int) (hp1 : gMine.ok aM) (hp2 : aArrivals.length ≤ 9223372036854775807 ∧ ∀ y ∈ aArrivals, -9223372036854775808 ≤ y ∧ y ≤ 9223372036854775807) (hp3 : -9223372036854775808 ≤ aBlocked ∧ aBlocked ≤ 9223372036854775807) (hp4 : aCrews.length ≤ 9223372036854775807 ∧ ∀ y ∈ aCrews, gCrew.ok y) (hp5 : aSizes.length ≤ 9223372036854775807 ∧ ∀ y ∈ aSizes, -9223372036854775808 ≤ y ∧ y ≤ 9223372036854775807) (hp6 : -9223372036854775808 ≤ aStart ∧ aStart ≤ 9223372036854775807) (hp7 : aList.length ≤ 9223372036854775807 ∧ ∀ y ∈ aList, gRefuge.ok y) (hp8 : -9223372036854775808 ≤ aBudget ∧ aBudget ≤ 9223372036854775807) : m_laws_FnExactAssignCrews aM aArrivals aBlocked aCrews aSizes aStart aList aBudget = true := by
  simp only [m_laws_FnExactAssignCrews, toRefuge_eq, toAirwayS_eq, toCrew_eq, toCrewS_eq, toInt64S_eq, toMine_eq, toRefugeS_eq, toAirway_eq, eqRefuge_refl, eqCrew_refl, eqMine_refl, eqCrewS_refl, eqRefugeS_refl, eqInt64S_refl, eqAirwayS_refl, eqAirway_refl, AssignCrews_eq, bne_self_eq_false, strB_neq_self, Bool.or_self, Bool.or_false, Bool.false_or, Bool.not_true, Bool.cond_false]
  by_cases h1 : 1048576 < (aArrivals.length : Int)
  · simp [h1]
  by_cases h2 : 1048576 < (aSizes.length : Int)
  · simp [h2]
  by_cases h3 : m_laws_szMine aM 1048576 < 0
  · simp [h3]
  have a3 := szMine_impA (a := aM) (l := 1048576) hp1 (by omega) (by omega) (by omega)
  have b3 := szMine_impB (a := aM) (l := 1048576) hp1 (by omega) (by omega) (by omega)
  by_cases h4 : m_laws_szCrewS aCrews (m_laws_szMine aM 1048576) < 0
  · simp [h4]
  have a4 := szCrewS_impA (a := aCrews) (l := (m_laws_szMine aM 1048576)) hp4 (by omega) (by omega) (by omega)
  have b4 := szCrewS_impB (a := aCrews) (l := (m_laws_szMine aM 1048576)) hp4 (by omega) (by omega) (by omega)
  by_cases h5 : m_laws_szRefugeS aList (m_laws_szCrewS aCrews (m_laws_szMine aM 1048576)) < 0
  · simp [h5]
  have a5 := szRefugeS_impA (a := aList) (l := (m_laws_szCrewS aCrews (m_laws_szMine aM 1048576))) hp7 (by omega) (by omega) (by omega)
  have b5 := szRefugeS_impB (a := aList) (l := (m_laws_szCrewS aCrews (m_laws_szMine aM 1048576))) hp7 (by omega) (by omega) (by omega)
  have k0 := markMine_rng (a := aM) (k := 1) (by omega) (by omega)
  have k1 := markInt64S_rng (a := aArrivals) (k := (m_laws_markMine aM 1).1) (by omega) (by omega)
  have k2 := markCrewS_rng (a := aCrews) (k := (m_laws_markInt64S aArrivals (m_laws_markMine aM 1).1).1) (by omega) (by omega)
  have k3 := markInt64S_rng (a := aSizes) (k := (m_laws_markCrewS aCrews (m_laws_markInt64S aArrivals (m_laws_markMine aM 1).1).1).1) (by omega) (by omega)
  have k4 := markRefugeS_rng (a := aList) (k := (m_laws_markInt64S aSizes (m_laws_markCrewS aCrews (m_laws_markInt64S aArrivals (m_laws_markMine aM 1).1).1).1).1) (by omega) (by omega)
  have kk : ¬ (m_laws_markRefugeS aList (m_laws_markInt64S aSizes (m_laws_markCrewS aCrews (m_laws_markInt64S aArrivals (m_laws_markMine aM 1).1).1).1).1).1 < 0 := by omega
  have hh := held_mark_int (a := (m_spec_AssignCrews aM aArrivals aBlocked aCrews aSizes aStart aList aBudget).1) (AssignCrews_len aM aArrivals aBlocked aCrews aSizes aStart aList aBudget)
  simp [h1, h2, h3, h4, h5, kk, hh.1, hh.2]

end Go.Proofs.Ytibbfdojcdkopaa
