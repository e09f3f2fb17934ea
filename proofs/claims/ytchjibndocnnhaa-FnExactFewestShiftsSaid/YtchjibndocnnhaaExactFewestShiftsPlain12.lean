/-
  PLAIN LAWS about the models: no program in sight. Conditions: as each theorem states them.
-/
import Derived.Test.YtchjibndocnnhaaExactFewestShiftsPlain11
set_option linter.unusedVariables false
set_option linter.unusedSimpArgs false
set_option linter.unusedSectionVars false
set_option linter.unnecessarySimpa false
namespace Go.Proofs.Ytchjibndocnnhaa
open Go Go.RowKit Go.Proofs Go.Proofs.Ytchjibndocnnhaa.E
theorem law_FnExactFewestShifts (aM : gMine) (aFlows : List Int) (aList : List gJob) (aBudget : Int) (hp1 : gMine.ok aM) (hp2 : aFlows.length ≤ 9223372036854775807 ∧ ∀ y ∈ aFlows, -9223372036854775808 ≤ y ∧ y ≤ 9223372036854775807) (hp3 : aList.length ≤ 9223372036854775807 ∧ ∀ y ∈ aList, gJob.ok y) (hp4 : -9223372036854775808 ≤ aBudget ∧ aBudget ≤ 9223372036854775807) : m_laws_FnExactFewestShifts aM aFlows aList aBudget = true := by
  simp only [m_laws_FnExactFewestShifts, toAirway_eq, toMine_eq, toJob_eq, toAirwayS_eq, toJobS_eq, toInt64S_eq, eqJobS_refl, eqJob_refl, eqAirway_refl, eqAirwayS_refl, eqInt64S_refl, eqMine_refl, FewestShifts_eq, bne_self_eq_false, strB_neq_self, Bool.or_self, Bool.or_false, Bool.false_or, Bool.not_true, Bool.cond_false]
  by_cases h1 : 1048576 < (aFlows.length : Int)
  · simp [h1]
  by_cases h2 : m_laws_szMine aM 1048576 < 0
  · simp [h2]
  have a2 := szMine_impA (a := aM) (l := 1048576) hp1 (by omega) (by omega) (by omega)
  have b2 := szMine_impB (a := aM) (l := 1048576) hp1 (by omega) (by omega) (by omega)
  by_cases h3 : m_laws_szJobS aList (m_laws_szMine aM 1048576) < 0
  · simp [h3]
  have a3 := szJobS_impA (a := aList) (l := (m_laws_szMine aM 1048576)) hp3 (by omega) (by omega) (by omega)
  have b3 := szJobS_impB (a := aList) (l := (m_laws_szMine aM 1048576)) hp3 (by omega) (by omega) (by omega)
  have k0 := markMine_rng (a := aM) (k := 1) (by omega) (by omega)
  have k1 := markInt64S_rng (a := aFlows) (k := (m_laws_markMine aM 1).1) (by omega) (by omega)
  have k2 := markJobS_rng (a := aList) (k := (m_laws_markInt64S aFlows (m_laws_markMine aM 1).1).1) (by omega) (by omega)
  have kk : ¬ (m_laws_markJobS aList (m_laws_markInt64S aFlows (m_laws_markMine aM 1).1).1).1 < 0 := by omega
  have hh := held_mark_int (a := (m_spec_FewestShifts aM aFlows aList aBudget).1) (FewestShifts_len aM aFlows aList aBudget)
  simp [h1, h2, h3, kk, hh.1, hh.2]

end Go.Proofs.Ytchjibndocnnhaa
