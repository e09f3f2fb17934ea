/-
  PLAIN LAWS about the models: no program in sight. Conditions: as each theorem states them.
-/
import Derived.Test.YtbflomopgofkgaaExactPermitClashesPlain8
set_option linter.unusedVariables false
set_option linter.unusedSimpArgs false
set_option linter.unusedSectionVars false
set_option linter.unnecessarySimpa false
namespace Go.Proofs.Ytbflomopgofkgaa
open Go Go.RowKit Go.Proofs Go.Proofs.Ytbflomopgofkgaa.E
theorem law_FnExactPermitClashes (aM : gMine) (aList : List gPermit) (hp1 : gMine.ok aM) (hp2 : aList.length ≤ 9223372036854775807 ∧ ∀ y ∈ aList, gPermit.ok y) : m_laws_FnExactPermitClashes aM aList = true := by
  simp only [m_laws_FnExactPermitClashes, toMine_eq, toPermit_eq, toAirway_eq, toAirwayS_eq, toPermitS_eq, eqMine_refl, eqInt64S_refl, eqPermit_refl, eqPermitS_refl, eqAirwayS_refl, eqAirway_refl, eqInt64SS_refl, PermitClashes_eq, bne_self_eq_false, strB_neq_self, Bool.or_self, Bool.or_false, Bool.false_or, Bool.not_true, Bool.cond_false]
  by_cases h1 : m_laws_szMine aM 1048576 < 0
  · simp [h1]
  have a1 := szMine_impA (a := aM) (l := 1048576) hp1 (by omega) (by omega) (by omega)
  have b1 := szMine_impB (a := aM) (l := 1048576) hp1 (by omega) (by omega) (by omega)
  by_cases h2 : m_laws_szPermitS aList (m_laws_szMine aM 1048576) < 0
  · simp [h2]
  have a2 := szPermitS_impA (a := aList) (l := (m_laws_szMine aM 1048576)) hp2 (by omega) (by omega) (by omega)
  have b2 := szPermitS_impB (a := aList) (l := (m_laws_szMine aM 1048576)) hp2 (by omega) (by omega) (by omega)
  have k0 := markMine_rng (a := aM) (k := 1) (by omega) (by omega)
  have k1 := markPermitS_rng (a := aList) (k := (m_laws_markMine aM 1).1) (by omega) (by omega)
  have kk : ¬ (m_laws_markPermitS aList (m_laws_markMine aM 1).1).1 < 0 := by omega
  have hP := PermitClashes_all aM aList
  have hh := held_mark_ss (a := (m_spec_PermitClashes aM aList).1) (by omega) (fun e he => by rw [hP.2 e he]; omega)
  simp [h1, h2, kk, hh.1, hh.2]

end Go.Proofs.Ytbflomopgofkgaa
