/-
  PLAIN LAWS about the models: no program in sight. Conditions: as each theorem states them.
-/
import Derived.Test.YtahohnhmdlndfaaExactFirstSmokyPlain9
set_option linter.unusedVariables false
set_option linter.unusedSimpArgs false
set_option linter.unusedSectionVars false
set_option linter.unnecessarySimpa false
namespace Go.Proofs.Ytahohnhmdlndfaa
open Go Go.RowKit Go.Proofs Go.Proofs.Ytahohnhmdlndfaa.E
/-! ## FirstSmoky -/
theorem FirstSmoky_eq (m : gMine) (flows : List Int) (f : gFire) (js : List Int) : m_impl_FirstSmoky m flows f js = m_spec_FirstSmoky m flows f js := by
  have hr : m_impl_Mine_hasJunctions m js = m_spec_l00Rises js 0 (IntKind.wrap .i64 (m.Junctions - 1)) := rises_eq js _
  simp only [m_impl_FirstSmoky, m_spec_FirstSmoky, fireCode0, hr]
  cases hc : (m_spec_l17Ask m flows f != 0) with
  | true => rfl
  | false =>
    have h := l17Ask_imp (by simpa using hc)
    have e : m_impl_FirstSmoky_b1 m flows f js = m_spec_FirstSmoky_b1 m flows f js := by
      funext rec k x
      simp only [m_impl_FirstSmoky_b1, m_spec_FirstSmoky_b1, arrivals_eq h.1 h.2.1 h.2.2]
    simp only [Bool.cond_false, arrivals_eq h.1 h.2.1 h.2.2, e]
theorem hasJ_in {m : gMine} {js : List Int} (hm : MineIn m) (h : m_impl_Mine_hasJunctions m js = true) : ∀ y ∈ js, 0 ≤ y ∧ y < m.Junctions := by
  have hr : m_impl_Mine_hasJunctions m js = m_spec_l00Rises js 0 (IntKind.wrap .i64 (m.Junctions - 1)) := rises_eq js _
  rw [hr] at h
  have hJ := hm.1
  intro y hy
  have := rises_imp h y hy
  rw [wr64 (n := m.Junctions - 1) (by omega)] at this
  omega
theorem rises_inJ {m : gMine} {js : List Int} (hm : MineIn m) (h : m_spec_l00Rises js 0 (IntKind.wrap .i64 (m.Junctions - 1)) = true) : ∀ y ∈ js, 0 ≤ y ∧ y < m.Junctions := by
  have hJ := hm.1
  intro y hy
  have := rises_imp h y hy
  rw [wr64 (n := m.Junctions - 1) (by omega)] at this
  omega

end Go.Proofs.Ytahohnhmdlndfaa
