/-
  PLAIN LAWS about the models: no program in sight. Conditions: as each theorem states them.
-/
import Derived.Test.YtahohnhmdlndfaaExactSmokyAirwaysPlain8
set_option linter.unusedVariables false
set_option linter.unusedSimpArgs false
set_option linter.unusedSectionVars false
set_option linter.unnecessarySimpa false
namespace Go.Proofs.Ytahohnhmdlndfaa
open Go Go.RowKit Go.Proofs Go.Proofs.Ytahohnhmdlndfaa.E
/-! ## A time besides -/
theorem fireCode_eq (m : gMine) (flows : List Int) (f : gFire) (t : Int) : m_impl_fireCode m flows f t = m_spec_l17More m flows f t := by
  simp only [m_impl_fireCode, m_spec_l17More, m_spec_l17Ask, fire_eq, l07Flows_eq', m_spec_l17Time, within_eq]
  cases m_spec_l04Ok m <;> cases m_spec_l17Fire m f <;> cases m_impl_Mine_hasFlows m flows <;> cases m_spec_l00In t 0 36000 <;> rfl
theorem l17More_imp {m : gMine} {flows : List Int} {f : gFire} {t : Int} (h : m_spec_l17More m flows f t = 0) : (MineIn m ∧ FlowsIn m flows ∧ FireIn m f) ∧ 0 ≤ t ∧ t ≤ 36000 := by
  have h' := h
  rw [← fireCode_eq] at h
  refine ⟨fireCode_imp h, ?_⟩
  simp only [m_impl_fireCode, m_impl_within] at h
  cases h1 : m_impl_ValidFire m f
  · simp [h1] at h
  · cases h2 : (decide (0 ≤ t) && decide (t ≤ 36000)) with
    | false => rw [h1, h2] at h; simp at h
    | true => simpa using h2
theorem l17More_impM {m : gMine} {flows : List Int} {f : gFire} {t : Int} (h : m_spec_l17More m flows f t = 0) : MineIn m := (l17More_imp h).1.1
theorem l17More_impF {m : gMine} {flows : List Int} {f : gFire} {t : Int} (h : m_spec_l17More m flows f t = 0) : FlowsIn m flows := (l17More_imp h).1.2.1
theorem l17More_impS {m : gMine} {flows : List Int} {f : gFire} {t : Int} (h : m_spec_l17More m flows f t = 0) : FireIn m f := (l17More_imp h).1.2.2
theorem l17More_impJ {m : gMine} {flows : List Int} {f : gFire} {t : Int} (h : m_spec_l17More m flows f t = 0) : (1 ≤ m.Junctions ∧ m.Junctions ≤ 16) ∧ m.Airways.length ≤ 24 ∧ flows.length = m.Airways.length ∧ (0 ≤ f.Airway ∧ f.Airway < m.Airways.length) := ⟨(l17More_imp h).1.1.1, (l17More_imp h).1.1.2.1, (l17More_imp h).1.2.1.1, (l17More_imp h).1.2.2.1⟩

end Go.Proofs.Ytahohnhmdlndfaa
