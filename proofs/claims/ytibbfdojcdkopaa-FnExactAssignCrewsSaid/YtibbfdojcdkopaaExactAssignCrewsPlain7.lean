/-
  PLAIN LAWS about the models: no program in sight. Conditions: as each theorem states them.
-/
import Derived.Test.YtibbfdojcdkopaaExactAssignCrewsPlain6
set_option linter.unusedVariables false
set_option linter.unusedSimpArgs false
set_option linter.unusedSectionVars false
set_option linter.unnecessarySimpa false
namespace Go.Proofs.Ytibbfdojcdkopaa
open Go Go.RowKit Go.Proofs Go.Proofs.Ytibbfdojcdkopaa.E
/-! ## Crews: both models judge alike -/
def CrewIn (m : gMine) (c : gCrew) : Prop := (0 ≤ c.Junction ∧ c.Junction < m.Junctions) ∧ 10 ≤ c.Speed ∧ c.Speed ≤ 300
theorem crew_eq (c : gCrew) : m_impl_Crew_valid c = m_spec_l19One c := by
  simp only [m_impl_Crew_valid, m_spec_l19One, name_eq, m_impl_junctionOk, within_eq]
theorem hasJunction_eq {m : gMine} (hm : MineIn m) (j : Int) : m_impl_Mine_hasJunction m j = (decide (0 ≤ j) && decide (j < m.Junctions)) := by
  have hJ := hm.1
  simp only [m_impl_Mine_hasJunction, m_impl_within]
  rw [wr64 (n := m.Junctions - 1) (by omega), Bool.eq_iff_iff]
  simp; omega
theorem one19_imp {c : gCrew} (h : m_spec_l19One c = true) : 0 ≤ c.Junction ∧ 10 ≤ c.Speed ∧ c.Speed ≤ 300 := by
  simp only [m_spec_l19One, m_spec_l00In, Bool.and_eq_true, decide_eq_true_eq] at h; omega
theorem crewOk_eq {m : gMine} (hm : MineIn m) (c : gCrew) : (m_impl_Crew_valid c && m_impl_Mine_hasJunction m c.Junction) = (m_spec_l19One c && !decide (m.Junctions ≤ c.Junction)) := by
  rw [crew_eq, hasJunction_eq hm]
  cases ho : m_spec_l19One c with
  | false => rfl
  | true => have h0 := (one19_imp ho).1; rw [Bool.eq_iff_iff]; simp; omega
/-! ### What is needed to escape -/
structure EscIn (m : gMine) (arrivals : List Int) (blocked : Int) : Prop where
  mine : MineIn m
  len : (arrivals.length : Int) = m.Junctions
theorem l19Arr_eq (m : gMine) (arrivals : List Int) : m_spec_l19Arrivals m arrivals = (((arrivals.length : Int) == m.Junctions) && m_impl_allWithin arrivals (-1) 1000000000000) := by
  rw [Bool.eq_iff_iff]
  have h := LOOP_all (b := m_spec_l19Arrivals_b1 m arrivals) (n := arrivals.length) (fun rec k i _ => rfl) (k := fun _ => (arrivals.length : Int) == m.Junctions) (((arrivals.length : Int) - 0 : Int).toNat + 1) 0 (by omega) (by omega) (by omega)
  simp only [m_spec_l19Arrivals]
  rw [h]
  simp only [Bool.and_eq_true, allWithin_iff, Bool.not_eq_false', m_spec_l00In, decide_eq_true_eq]
  constructor
  · rintro ⟨h1, h2⟩; exact ⟨h2, all_at.2 fun j hj => h1 j (by omega) hj⟩
  · rintro ⟨h1, h2⟩; exact ⟨fun j _ hj => at_all h2 ⟨by omega, by omega⟩, h1⟩

end Go.Proofs.Ytibbfdojcdkopaa
