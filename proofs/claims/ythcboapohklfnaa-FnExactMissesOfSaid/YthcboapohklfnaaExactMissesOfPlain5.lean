/-
  PLAIN LAWS about the models: no program in sight. Conditions: as each theorem states them.
-/
import Derived.Test.YthcboapohklfnaaExactMissesOfPlain4
set_option linter.unusedVariables false
set_option linter.unusedSimpArgs false
set_option linter.unusedSectionVars false
set_option linter.unnecessarySimpa false
namespace Go.Proofs.Ythcboapohklfnaa
open Go Go.RowKit Go.Proofs Go.Proofs.Ythcboapohklfnaa.E
theorem law_FnExactMissesOf (aM : gMine) (aFlows : List Int) (aList : List gWant) (hp1 : gMine.ok aM) (hp2 : aFlows.length ≤ 9223372036854775807 ∧ ∀ y ∈ aFlows, -9223372036854775808 ≤ y ∧ y ≤ 9223372036854775807) (hp3 : aList.length ≤ 9223372036854775807 ∧ ∀ y ∈ aList, gWant.ok y) : m_laws_FnExactMissesOf aM aFlows aList = true := by
  simp only [m_laws_FnExactMissesOf, toWant_eq, toMine_eq, toAirwayS_eq, toInt64S_eq, toWantS_eq, toAirway_eq, eqWantS_refl, eqMine_refl, eqWant_refl, eqAirway_refl, eqInt64S_refl, eqAirwayS_refl, MissesOf_eq, bne_self_eq_false, Bool.or_self, Bool.or_false, Bool.false_or, Bool.not_true, Bool.cond_false]
  by_cases h1 : 1048576 < (aFlows.length : Int)
  · simp [h1]
  by_cases h2 : m_laws_szMine aM 1048576 < 0
  · simp [h2]
  have a2 := szMine_impA (a := aM) (l := 1048576) hp1 (by omega) (by omega) (by omega)
  have b2 := szMine_impB (a := aM) (l := 1048576) hp1 (by omega) (by omega) (by omega)
  by_cases h3 : m_laws_szWantS aList (m_laws_szMine aM 1048576) < 0
  · simp [h3]
  have a3 := szWantS_impA (a := aList) (l := (m_laws_szMine aM 1048576)) hp3 (by omega) (by omega) (by omega)
  have b3 := szWantS_impB (a := aList) (l := (m_laws_szMine aM 1048576)) hp3 (by omega) (by omega) (by omega)
  have k0 := markMine_rng (a := aM) (k := 1) (by omega) (by omega)
  have k1 := markInt64S_rng (a := aFlows) (k := (m_laws_markMine aM 1).1) (by omega) (by omega)
  have k2 := markWantS_rng (a := aList) (k := (m_laws_markInt64S aFlows (m_laws_markMine aM 1).1).1) (by omega) (by omega)
  have kk : ¬ (m_laws_markWantS aList (m_laws_markInt64S aFlows (m_laws_markMine aM 1).1).1).1 < 0 := by omega
  have hh := held_mark_int (a := (m_spec_MissesOf aM aFlows aList).1) (MissesOf_len aM aFlows aList)
  simp [h1, h2, h3, kk, hh.1, hh.2]

end Go.Proofs.Ythcboapohklfnaa
