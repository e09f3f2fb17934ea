/-
  PLAIN LAWS about the models: no program in sight. Conditions: as each theorem states them.
-/
import Derived.Test.YtbflomopgofkgaaExactApplyChangesPlain5
set_option linter.unusedVariables false
set_option linter.unusedSimpArgs false
set_option linter.unusedSectionVars false
set_option linter.unnecessarySimpa false
namespace Go.Proofs.Ytbflomopgofkgaa
open Go Go.RowKit Go.Proofs Go.Proofs.Ytbflomopgofkgaa.E
theorem setting_eq (e : gSetting) : m_impl_Setting_valid e = m_spec_l27Setting e := by
  simp only [m_impl_Setting_valid, m_spec_l27Setting, name_eq]; rfl
theorem state_all (list : List gSetting) : m_spec_l27State list = true ↔ (∀ j : Nat, (0 : Int) ≤ j → j < list.length → ((!(m_spec_l27Setting (at' list j))) || ((decide ((0 : Int) < j)) && (strB .geq (at' list ((j : Int) - 1)).Name (at' list j).Name))) = false) ∧ list.length ≤ 24 := by
  have h2 := LOOP_all (b := m_spec_l27State_b1 list) (n := list.length) (fun rec k i _ => rfl) (k := fun _ => decide ((list.length : Int) ≤ 24)) (((list.length : Int) - 0 : Int).toNat + 1) 0 (by omega) (by omega) (by omega)
  simp only [m_spec_l27State]
  rw [h2]
  simp only [decide_eq_true_eq]
  constructor
  · rintro ⟨a, b⟩; exact ⟨a, by omega⟩
  · rintro ⟨a, b⟩; exact ⟨a, by omega⟩
theorem state_eq (list : List gSetting) : m_impl_ValidState list = m_spec_l27State list := by
  rw [Bool.eq_iff_iff, state_all]
  have h1 := LOOP_all (b := m_impl_ValidState_b1 list) (n := list.length) (fun rec k i _ => rfl) (k := fun _ => true) (((list.length : Int) - 0 : Int).toNat + 1) 0 (by omega) (by omega) (by omega)
  simp only [m_impl_ValidState]
  by_cases hl : 24 < (list.length : Int)
  · simp only [hl, decide_true, Bool.cond_true]
    constructor
    · intro h; exact absurd h (by simp)
    · rintro ⟨_, h⟩; omega
  · simp only [hl, decide_false, Bool.cond_false]
    rw [h1]
    simp only [setting_eq, strleq_geq, and_true]
    constructor
    · intro h; exact ⟨h, by omega⟩
    · rintro ⟨h, _⟩; exact h
def StIn (list : List gSetting) : Prop := list.length ≤ 24 ∧ ∀ y ∈ list, y.Name.length ≤ 10 ∧ 0 ≤ y.Value ∧ y.Value ≤ 1000
theorem state_in {list : List gSetting} (h : m_spec_l27State list = true) : StIn list := by
  have h1 := (state_all list).1 h
  refine ⟨h1.2, all_at.2 fun j hj => ?_⟩
  have h2 := h1.1 j (by omega) hj
  simp only [Bool.or_eq_false_iff, Bool.not_eq_false'] at h2
  have h3 := h2.1
  simp only [m_spec_l27Setting, Bool.and_eq_true] at h3
  have h4 := l00In_imp h3.2
  exact ⟨name_len h3.1, h4.1, h4.2⟩
theorem state_inI {list : List gSetting} (h : m_impl_ValidState list = true) : StIn list := state_in (by rw [← state_eq]; exact h)

end Go.Proofs.Ytbflomopgofkgaa
