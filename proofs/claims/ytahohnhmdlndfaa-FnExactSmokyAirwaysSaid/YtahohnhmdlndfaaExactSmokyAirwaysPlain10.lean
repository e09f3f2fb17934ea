/-
  PLAIN LAWS about the models: no program in sight. Conditions: as each theorem states them.
-/
import Derived.Test.YtahohnhmdlndfaaExactSmokyAirwaysPlain9
set_option linter.unusedVariables false
set_option linter.unusedSimpArgs false
set_option linter.unusedSectionVars false
set_option linter.unnecessarySimpa false
namespace Go.Proofs.Ytahohnhmdlndfaa
open Go Go.RowKit Go.Proofs Go.Proofs.Ytahohnhmdlndfaa.E
/-! ## How far smoke has come -/
theorem front_eq {m : gMine} {flows : List Int} (hm : MineIn m) (hf : FlowsIn m flows) (a : List Int) {k : Int} (hk : 0 ≤ k ∧ k < m.Airways.length) (t : Int) : m_impl_Mine_front m flows a k t = m_spec_l17Front m flows a k t := by
  have hq := hf.at hk
  simp only [m_impl_Mine_front, m_spec_l17Front, ← abs_eq]
  by_cases h0 : at' flows k = 0
  · have : m_impl_abs (at' flows k) = 0 := by rw [h0]; decide
    simp [h0]
    rw [h0] at this; simp [this]
  · have h1 : ¬ m_impl_abs (at' flows k) = 0 := abs_ne hq h0
    have hb1 : (at' flows k == 0) = false := by simpa using h0
    have hb2 : (m_impl_abs (at' flows k) == 0) = false := by simpa using h1
    rw [hb1, hb2, ways_start h0]
    simp only [Bool.false_or, Bool.cond_false]
    cases decide (at' a (m_spec_l13Start (at' m.Airways k) (at' flows k)) < 0) || decide (t ≤ at' a (m_spec_l13Start (at' m.Airways k) (at' flows k))) with
    | true => rfl
    | false =>
      simp only [Bool.cond_false, m_spec_l00Min]
      generalize IntKind.wrap .i64 (Int.tdiv (IntKind.wrap .i64 (IntKind.wrap .i64 (t - at' a (m_spec_l13Start (at' m.Airways k) (at' flows k))) * m_impl_abs (at' flows k))) (at' m.Airways k).Section) = w
      by_cases h2 : (at' m.Airways k).Length < w <;> simp [h2]

end Go.Proofs.Ytahohnhmdlndfaa
