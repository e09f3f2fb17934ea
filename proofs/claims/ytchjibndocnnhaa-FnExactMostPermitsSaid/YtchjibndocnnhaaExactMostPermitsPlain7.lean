/-
  PLAIN LAWS about the models: no program in sight. Conditions: as each theorem states them.
-/
import Derived.Test.YtchjibndocnnhaaExactMostPermitsPlain6
set_option linter.unusedVariables false
set_option linter.unusedSimpArgs false
set_option linter.unusedSectionVars false
set_option linter.unnecessarySimpa false
namespace Go.Proofs.Ytchjibndocnnhaa
open Go Go.RowKit Go.Proofs Go.Proofs.Ytchjibndocnnhaa.E
theorem law_FnExactMostPermits (aM : gMine) (aList : List gPermit) (aBudget : Int) (hp1 : gMine.ok aM) (hp2 : aList.length ≤ 9223372036854775807 ∧ ∀ y ∈ aList, gPermit.ok y) (hp3 : -9223372036854775808 ≤ aBudget ∧ aBudget ≤ 9223372036854775807) : m_laws_FnExactMostPermits aM aList aBudget = true := by
  simp only [m_laws_FnExactMostPermits, toMine_eq, toPermit_eq, toAirwayS_eq, toAirway_eq, toPermitS_eq, eqMine_refl, eqAirway_refl, eqPermit_refl, eqAirwayS_refl, eqPermitS_refl, eqInt64S_refl, MostPermits_eq, bne_self_eq_false, strB_neq_self, Bool.or_self, Bool.or_false, Bool.false_or, Bool.not_true, Bool.cond_false]
  by_cases h1 : m_laws_szMine aM 1048576 < 0
  · simp [h1]
  have a1 := szMine_impA (a := aM) (l := 1048576) hp1 (by omega) (by omega) (by omega)
  have b1 := szMine_impB (a := aM) (l := 1048576) hp1 (by omega) (by omega) (by omega)
  by_cases h2 : m_laws_szPermitS aList (m_laws_szMine aM 1048576) < 0
  · simp [h2]
  have a2 := szPermitS_impA (a := aList) (l := (m_laws_szMine aM 1048576)) hp2 (by omega) (by omega) (by omega)
  have b2 := szPermitS_impB (a := aList) (l := (m_laws_szMine aM 1048576)) hp2 (by omega) (by omega) (by omega)
  have k0 := markMine_rng (a := aM) (k := 1) (by omega) (by omega)
  have k1 := markPermitS_rng (a := aList) (k := (m_laws_markMine aM 1).1) (by omega) (by omega)
  have kk : ¬ (m_laws_markPermitS aList (m_laws_markMine aM 1).1).1 < 0 := by omega
  have hh := held_mark_int (a := (m_spec_MostPermits aM aList aBudget).1) (MostPermits_len aM aList aBudget)
  simp [h1, h2, kk, hh.1, hh.2]

end Go.Proofs.Ytchjibndocnnhaa
