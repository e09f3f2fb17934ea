/-
  PLAIN LAWS about the models: no program in sight. Conditions: as each theorem states them.
-/
import Derived.Test.YtbeppnhplglocaaExactSpreadChecksPlain7
set_option linter.unusedVariables false
set_option linter.unusedSimpArgs false
set_option linter.unusedSectionVars false
set_option linter.unnecessarySimpa false
namespace Go.Proofs.Ytbeppnhplglocaa
open Go Go.RowKit Go.Proofs Go.Proofs.Ytbeppnhplglocaa.E
theorem law_FnExactSpreadChecks (aList : List gCheck) (aFrom : Int) (aPerDay : Int) (hp1 : aList.length ≤ 9223372036854775807 ∧ ∀ y ∈ aList, gCheck.ok y) (hp2 : -9223372036854775808 ≤ aFrom ∧ aFrom ≤ 9223372036854775807) (hp3 : -9223372036854775808 ≤ aPerDay ∧ aPerDay ≤ 9223372036854775807) : m_laws_FnExactSpreadChecks aList aFrom aPerDay = true := by
  simp only [m_laws_FnExactSpreadChecks, toCheckS_eq, toCheck_eq, eqCheckS_refl, eqInt64S_refl, eqCheck_refl, SpreadChecks_eq, bne_self_eq_false, strB_neq_self, Bool.or_self, Bool.or_false, Bool.false_or, Bool.not_true, Bool.cond_false]
  by_cases h1 : m_laws_szCheckS aList 1048576 < 0
  · simp [h1]
  have a1 := szCheckS_impA (a := aList) (l := 1048576) hp1 (by omega) (by omega) (by omega)
  have b1 := szCheckS_impB (a := aList) (l := 1048576) hp1 (by omega) (by omega) (by omega)
  have k0 := markCheckS_rng (a := aList) (k := 1) (by omega) (by omega)
  have kk : ¬ (m_laws_markCheckS aList 1).1 < 0 := by omega
  have hh := held_mark_int (a := (m_spec_SpreadChecks aList aFrom aPerDay).1) (SpreadChecks_len aList aFrom aPerDay)
  simp [h1, kk, hh.1, hh.2]

end Go.Proofs.Ytbeppnhplglocaa
