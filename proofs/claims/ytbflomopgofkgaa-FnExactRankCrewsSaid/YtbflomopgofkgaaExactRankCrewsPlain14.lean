/-
  PLAIN LAWS about the models: no program in sight. Conditions: as each theorem states them.
-/
import Derived.Test.YtbflomopgofkgaaExactRankCrewsPlain13
set_option linter.unusedVariables false
set_option linter.unusedSimpArgs false
set_option linter.unusedSectionVars false
set_option linter.unnecessarySimpa false
namespace Go.Proofs.Ytbflomopgofkgaa
open Go Go.RowKit Go.Proofs Go.Proofs.Ytbflomopgofkgaa.E
theorem law_FnExactRankCrews (aList : List gDrill) (hp1 : aList.length ≤ 9223372036854775807 ∧ ∀ y ∈ aList, gDrill.ok y) : m_laws_FnExactRankCrews aList = true := by
  simp only [m_laws_FnExactRankCrews, toDrill_eq, toDrillS_eq, eqDrill_refl, eqStringS_refl, eqDrillS_refl, RankCrews_eq, bne_self_eq_false, strB_neq_self, Bool.or_self, Bool.or_false, Bool.false_or, Bool.not_true, Bool.cond_false]
  by_cases h1 : m_laws_szDrillS aList 1048576 < 0
  · simp [h1]
  have a1 := szDrillS_impA (a := aList) (l := 1048576) hp1 (by omega) (by omega) (by omega)
  have b1 := szDrillS_impB (a := aList) (l := 1048576) hp1 (by omega) (by omega) (by omega)
  have k0 := markDrillS_rng (a := aList) (k := 1) (by omega) (by omega)
  have kk : ¬ (m_laws_markDrillS aList 1).1 < 0 := by omega
  have hh := held_mark_str (a := (m_spec_RankCrews aList).1) (by have := rank_len aList; omega)
  simp [h1, kk, hh.1, hh.2]

end Go.Proofs.Ytbflomopgofkgaa
