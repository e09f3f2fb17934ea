/-
  PLAIN LAWS about the models: no program in sight. Conditions: as each theorem states them.
-/
import Derived.Test.YtceonolphigfdaaDoorExactReadPermitPlain13
set_option linter.unusedVariables false
set_option linter.unusedSimpArgs false
set_option linter.unusedSectionVars false
set_option linter.unnecessarySimpa false
namespace Go.Proofs.YtceonolphigfdaaDoor
open Go Go.RowKit Go.Proofs Go.Proofs.YtceonolphigfdaaDoor.E
theorem kindOk_imp {k : Int} (h : m_impl_kindOk k = true) : 1 ≤ k ∧ k ≤ 4 := within_imp h
theorem one_rng {c : gPermit} (h : m_spec_l26One c = true) : (c.Airway ≤ 100 ∧ -100 ≤ c.Airway) ∧ (c.From ≤ 100000 ∧ -1000 ≤ c.From) ∧ (c.Until ≤ 100000 ∧ -1000 ≤ c.Until) ∧ c.Id.length ≤ 10 ∧ (1 ≤ c.Kind ∧ c.Kind ≤ 4) := by
  have h0 := one_imp h
  simp only [m_spec_l26One, Bool.and_eq_true] at h
  have h1 := l00In_imp h.1.1.2; have h3 := name_len h.1.1.1.1; have h4 := l00In_imp h0.2.2.2.2
  exact ⟨by omega, by omega, by omega, h3, h4⟩
theorem kindName_eq {k : Int} (h : 1 ≤ k ∧ k ≤ 4) : m_impl_KindName k = m_spec_l26Name k := by
  have : k = 1 ∨ k = 2 ∨ k = 3 ∨ k = 4 := by omega
  rcases this with rfl | rfl | rfl | rfl <;> rfl
theorem name26_len (k : Int) : (m_spec_l26Name k).length ≤ 10 := by
  unfold m_spec_l26Name
  cases k == 1 <;> cases k == 2 <;> cases k == 3 <;> cases k == 4 <;> simp
theorem kind_len (k : Int) : (m_impl_KindName k).length ≤ 10 := by
  by_cases h : 1 ≤ k ∧ k ≤ 4
  · rw [kindName_eq h]; exact name26_len k
  · have : m_impl_kindOk k = false := by
      cases e : m_impl_kindOk k with
      | false => rfl
      | true => exact absurd (within_imp e) h
    simp [m_impl_KindName, this]
theorem valid_len {c : gPermit} (h : m_impl_Permit_valid c = true) : c.Id.length ≤ 10 := by
  have := one_rng (by rw [← permit_eq]; exact h); omega

end Go.Proofs.YtceonolphigfdaaDoor
