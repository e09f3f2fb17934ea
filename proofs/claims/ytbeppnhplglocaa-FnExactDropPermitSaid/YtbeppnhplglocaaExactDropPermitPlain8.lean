/-
  PLAIN LAWS about the models: no program in sight. Conditions: as each theorem states them.
-/
import Derived.Test.YtbeppnhplglocaaExactDropPermitPlain7
set_option linter.unusedVariables false
set_option linter.unusedSimpArgs false
set_option linter.unusedSectionVars false
set_option linter.unnecessarySimpa false
namespace Go.Proofs.Ytbeppnhplglocaa
open Go Go.RowKit Go.Proofs Go.Proofs.Ytbeppnhplglocaa.E
theorem law_FnExactDropPermit (aM : gMine) (aList : List gPermit) (aId : List UInt8) (hp1 : gMine.ok aM) (hp2 : aList.length ≤ 9223372036854775807 ∧ ∀ y ∈ aList, gPermit.ok y) (hp3 : aId.length ≤ 9223372036854775807) : m_laws_FnExactDropPermit aM aList aId = true := by
  simp only [m_laws_FnExactDropPermit, toMine_eq, toPermit_eq, toAirwayS_eq, toAirway_eq, toPermitS_eq, eqMine_refl, eqPermit_refl, eqPermitS_refl, eqAirwayS_refl, eqAirway_refl, DropPermit_eq, bne_self_eq_false, strB_neq_self, Bool.or_self, Bool.or_false, Bool.false_or, Bool.not_true, Bool.cond_false]
  by_cases h1 : 1048576 < (aId.length : Int)
  · simp [h1]
  by_cases h2 : m_laws_szMine aM 1048576 < 0
  · simp [h2]
  have a2 := szMine_impA (a := aM) (l := 1048576) hp1 (by omega) (by omega) (by omega)
  have b2 := szMine_impB (a := aM) (l := 1048576) hp1 (by omega) (by omega) (by omega)
  by_cases h3 : m_laws_szPermitS aList (m_laws_szMine aM 1048576) < 0
  · simp [h3]
  have a3 := szPermitS_impA (a := aList) (l := (m_laws_szMine aM 1048576)) hp2 (by omega) (by omega) (by omega)
  have b3 := szPermitS_impB (a := aList) (l := (m_laws_szMine aM 1048576)) hp2 (by omega) (by omega) (by omega)
  have k0 := markMine_rng (a := aM) (k := 1) (by omega) (by omega)
  have k1 := markPermitS_rng (a := aList) (k := (m_laws_markMine aM 1).1) (by omega) (by omega)
  have kk : ¬ (m_laws_markPermitS aList (m_laws_markMine aM 1).1).1 < 0 := by omega
  have hh := held_mark_permit (a := (m_spec_DropPermit aM aList aId).1) (DropPermit_len aM aList aId)
  simp [h1, h2, h3, kk, hh.1, hh.2]

end Go.Proofs.Ytbeppnhplglocaa
