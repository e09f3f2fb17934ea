/-
  PLAIN LAWS about the models: no program in sight. Conditions: as each theorem states them.
-/
import Derived.Test.YtdhehmaglhobjaaExactCrewsOfPlain6
set_option linter.unusedVariables false
set_option linter.unusedSimpArgs false
set_option linter.unusedSectionVars false
set_option linter.unnecessarySimpa false
namespace Go.Proofs.Ytdhehmaglhobjaa
open Go Go.RowKit Go.Proofs Go.Proofs.Ytdhehmaglhobjaa.E
theorem crews_len (list : List gDrill) : (m_spec_CrewsOf list).1.length ≤ 1000 := by
  simp only [m_spec_CrewsOf]
  cases hok : m_spec_l28Ok list with
  | false => simp
  | true =>
    have h1 := crewsOf_len list
    have h2 := (drillsOk_imp hok).1
    rw [crewsOf_eq] at h1
    simp only [Bool.not_true, Bool.cond_false]; omega
theorem law_FnExactCrewsOf (aList : List gDrill) (hp1 : aList.length ≤ 9223372036854775807 ∧ ∀ y ∈ aList, gDrill.ok y) : m_laws_FnExactCrewsOf aList = true := by
  simp only [m_laws_FnExactCrewsOf, toDrillS_eq, toDrill_eq, eqDrill_refl, eqDrillS_refl, eqStringS_refl, CrewsOf_eq, bne_self_eq_false, strB_neq_self, Bool.or_self, Bool.or_false, Bool.false_or, Bool.not_true, Bool.cond_false]
  by_cases h1 : m_laws_szDrillS aList 1048576 < 0
  · simp [h1]
  have a1 := szDrillS_impA (a := aList) (l := 1048576) hp1 (by omega) (by omega) (by omega)
  have b1 := szDrillS_impB (a := aList) (l := 1048576) hp1 (by omega) (by omega) (by omega)
  have k0 := markDrillS_rng (a := aList) (k := 1) (by omega) (by omega)
  have kk : ¬ (m_laws_markDrillS aList 1).1 < 0 := by omega
  have hh := held_mark_str (a := (m_spec_CrewsOf aList).1) (by have := crews_len aList; omega)
  simp [h1, kk, hh.1, hh.2]

end Go.Proofs.Ytdhehmaglhobjaa
