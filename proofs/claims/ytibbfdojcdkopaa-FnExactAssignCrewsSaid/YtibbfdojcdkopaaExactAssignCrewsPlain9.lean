/-
  PLAIN LAWS about the models: no program in sight. Conditions: as each theorem states them.
-/
import Derived.Test.YtibbfdojcdkopaaExactAssignCrewsPlain8
set_option linter.unusedVariables false
set_option linter.unusedSimpArgs false
set_option linter.unusedSectionVars false
set_option linter.unnecessarySimpa false
namespace Go.Proofs.Ytibbfdojcdkopaa
open Go Go.RowKit Go.Proofs Go.Proofs.Ytibbfdojcdkopaa.E
/-! ## Crews and the ask of AssignCrews (blocks of another claim of ours) -/
def CrewsIn (m : gMine) (list : List gCrew) : Prop := list.length ≤ 8 ∧ ∀ c ∈ list, CrewIn m c
theorem crews_eq (m : gMine) (list : List gCrew) : m_impl_ValidCrews m list = (m_spec_l04Ok m && m_spec_l19List m list) := by
  simp only [m_impl_ValidCrews, mine_eq]
  cases ho : m_spec_l04Ok m with
  | false => rfl
  | true =>
    have hm := l04Ok_imp ho
    exact valid_eq (fun c => m_impl_Crew_valid c && m_impl_Mine_hasJunction m c.Junction) (fun c => m_spec_l19One c && !decide (m.Junctions ≤ c.Junction)) (fun c => c.Id) true (fun rec k i _ => by simp only [m_impl_ValidCrews_b1, Bool.not_and]) (fun rec k i _ => by simp only [m_spec_l19List_b1, Bool.not_and, Bool.not_not]) fun c => crewOk_eq hm c
theorem l19List_imp {m : gMine} {list : List gCrew} (h : m_spec_l19List m list = true) : CrewsIn m list := by
  have h1 := valid_imp (fun c => m_spec_l19One c && !decide (m.Junctions ≤ c.Junction)) (fun c => c.Id) (fun rec k i _ => by simp only [m_spec_l19List_b1, Bool.not_and, Bool.not_not]) h
  refine ⟨by omega, fun c hc => ?_⟩
  have h2 := h1.2 c hc
  simp only [Bool.and_eq_true, Bool.not_eq_true', decide_eq_false_iff_not] at h2
  have := one19_imp h2.1
  exact (⟨⟨this.1, by have := h2.2; omega⟩, this.2⟩ : CrewIn m c)
theorem l19List_len {m : gMine} {list : List gCrew} (h : m_spec_l19List m list = true) : list.length ≤ 8 := (l19List_imp h).1
theorem l17Time_imp {t : Int} (h : m_spec_l17Time t = true) : 0 ≤ t ∧ t ≤ 36000 := l00In_imp h
theorem l19Arr_imp {m : gMine} {arr : List Int} (h : m_spec_l19Arrivals m arr = true) : (arr.length : Int) = m.Junctions := by
  rw [l19Arr_eq, Bool.and_eq_true] at h; simpa using h.1
theorem noJunctions (m : gMine) : m_impl_Mine_hasJunctions m [] = true := by
  simp only [m_impl_Mine_hasJunctions]
  rw [show m_impl_allWithin [] 0 (IntKind.wrap .i64 (m.Junctions - 1)) = true from allWithin_iff.2 (fun y hy => by simp at hy)]
  rfl
theorem escapeN (m : gMine) (arr : List Int) (blocked : Int) (l : List gCrew) (start : Int) : m_impl_escapeOf m arr blocked l start [] = bif (!(m_spec_l04Ok m)) || (!(m_spec_l19List m l)) then (gescape.mk (gMine.mk 0 []) [] 0, 1) else bif (!(m_spec_l00In blocked (-1) ((m.Airways.length : Int) - 1))) || (!(m_spec_l17Time start)) then (gescape.mk (gMine.mk 0 []) [] 0, 2) else bif !(m_spec_l19Arrivals m arr) then (gescape.mk (gMine.mk 0 []) [] 0, 7) else (gescape.mk m arr blocked, 0) := by
  have ht : m_spec_l17Time start = m_spec_l00In start 0 36000 := rfl
  simp only [m_impl_escapeOf, crews_eq, within_eq, l19Arr_eq, noJunctions, ht, Bool.not_and, bne, Bool.not_true, Bool.or_false]
theorem escapeN_imp {m : gMine} {arr : List Int} {blocked : Int} {l : List gCrew} {start : Int} (h : (m_impl_escapeOf m arr blocked l start []).2 = 0) : (m_impl_escapeOf m arr blocked l start []).1 = gescape.mk m arr blocked ∧ MineIn m ∧ CrewsIn m l ∧ (0 ≤ start ∧ start ≤ 36000) ∧ (arr.length : Int) = m.Junctions := by
  rw [escapeN] at h ⊢
  cases h1 : m_spec_l04Ok m <;> cases h2 : m_spec_l19List m l <;> cases h4 : m_spec_l00In blocked (-1) ((m.Airways.length : Int) - 1) <;> cases h5 : m_spec_l17Time start <;> cases h6 : m_spec_l19Arrivals m arr <;> simp [h1, h2, h4, h5, h6] at h
  exact ⟨by simp, l04Ok_imp h1, l19List_imp h2, l17Time_imp h5, l19Arr_imp h6⟩
section
variable {m : gMine} {arr : List Int} {blocked : Int} {l : List gCrew} {start : Int}
theorem escT_M (h : (m_impl_escapeOf m arr blocked l start []).2 = 0) : MineIn (m_impl_escapeOf m arr blocked l start []).1.mine := by
  have g := escapeN_imp h
  rw [g.1]; exact g.2.1
theorem escT_L (h : (m_impl_escapeOf m arr blocked l start []).2 = 0) : ((m_impl_escapeOf m arr blocked l start []).1.arrivals.length : Int) = (m_impl_escapeOf m arr blocked l start []).1.mine.Junctions := by
  have g := escapeN_imp h
  rw [g.1]; exact g.2.2.2.2
theorem escT_S (h : (m_impl_escapeOf m arr blocked l start []).2 = 0) : 0 ≤ start ∧ start ≤ 36000 := (escapeN_imp h).2.2.2.1
theorem escT_N (h : (m_impl_escapeOf m arr blocked l start []).2 = 0) : l.length ≤ 8 := (escapeN_imp h).2.2.1.1
theorem escT_C (h : (m_impl_escapeOf m arr blocked l start []).2 = 0) {i : Int} (hi : 0 ≤ i ∧ i < l.length) : CrewIn (m_impl_escapeOf m arr blocked l start []).1.mine (at' l i) := by
  have g := escapeN_imp h
  rw [g.1]; exact at_all g.2.2.1.2 hi
end

end Go.Proofs.Ytibbfdojcdkopaa
