/-
  PLAIN LAWS about the models: no program in sight. Conditions: as each theorem states them.
-/
import Derived.Test.YthcboapohklfnaaExactTrappedCrewsPlain9
set_option linter.unusedVariables false
set_option linter.unusedSimpArgs false
set_option linter.unusedSectionVars false
set_option linter.unnecessarySimpa false
namespace Go.Proofs.Ythcboapohklfnaa
open Go Go.RowKit Go.Proofs Go.Proofs.Ythcboapohklfnaa.E
/-! ## TrappedCrews -/
def CrewsIn (m : gMine) (list : List gCrew) : Prop := list.length ≤ 8 ∧ ∀ c ∈ list, CrewIn m c
theorem crews_eq (m : gMine) (list : List gCrew) : m_impl_ValidCrews m list = (m_spec_l04Ok m && m_spec_l19List m list) := by
  simp only [m_impl_ValidCrews, mine_eq]
  cases ho : m_spec_l04Ok m with
  | false => rfl
  | true =>
    have hm := l04Ok_imp ho
    exact valid_eq (fun c => m_impl_Crew_valid c && m_impl_Mine_hasJunction m c.Junction) (fun c => m_spec_l19One c && !decide (m.Junctions ≤ c.Junction)) (fun c => c.Id) true (fun rec k i _ => by simp only [m_impl_ValidCrews_b1, Bool.not_and]) (fun rec k i _ => by simp only [m_spec_l19List_b1, Bool.not_and, Bool.not_not]) fun c => crewOk_eq hm c
theorem l19List_imp {m : gMine} {list : List gCrew} (h : m_spec_l19List m list = true) : CrewsIn m list := by
  have h1 := valid_imp (fun c => m_spec_l19One c && !decide (m.Junctions ≤ c.Junction)) (fun c => c.Id) (fun rec k i _ => by simp only [m_spec_l19List_b1, Bool.not_and, Bool.not_not]) h
  refine ⟨by omega, fun c hc => ?_⟩
  have h2 := h1.2 c hc
  simp only [Bool.and_eq_true, Bool.not_eq_true', decide_eq_false_iff_not] at h2
  have := one19_imp h2.1
  exact (⟨⟨this.1, by have := h2.2; omega⟩, this.2⟩ : CrewIn m c)
theorem l19List_len {m : gMine} {list : List gCrew} (h : m_spec_l19List m list = true) : list.length ≤ 8 := (l19List_imp h).1
theorem l17Time_imp {t : Int} (h : m_spec_l17Time t = true) : 0 ≤ t ∧ t ≤ 36000 := l00In_imp h
theorem l19Arr_imp {m : gMine} {arr : List Int} (h : m_spec_l19Arrivals m arr = true) : (arr.length : Int) = m.Junctions := by
  rw [l19Arr_eq, Bool.and_eq_true] at h; simpa using h.1
theorem rises_inJ {m : gMine} {js : List Int} (hm : MineIn m) (h : m_spec_l00Rises js 0 (IntKind.wrap .i64 (m.Junctions - 1)) = true) : ∀ y ∈ js, 0 ≤ y ∧ y < m.Junctions := by
  have hJ := hm.1
  intro y hy
  have := rises_imp h y hy
  rw [wr64 (n := m.Junctions - 1) (by omega)] at this
  omega
theorem escapeT (m : gMine) (arr : List Int) (blocked : Int) (l : List gCrew) (start : Int) (exits : List Int) : m_impl_escapeOf m arr blocked l start exits = bif (!(m_spec_l04Ok m)) || (!(m_spec_l19List m l)) then (gescape.mk (gMine.mk 0 []) [] 0, 1) else bif (!(m_spec_l00In blocked (-1) ((m.Airways.length : Int) - 1))) || (!(m_spec_l17Time start)) then (gescape.mk (gMine.mk 0 []) [] 0, 2) else bif (!(m_spec_l19Arrivals m arr)) || (!(m_spec_l00Rises exits 0 (IntKind.wrap .i64 (m.Junctions - 1)))) then (gescape.mk (gMine.mk 0 []) [] 0, 7) else (gescape.mk m arr blocked, 0) := by
  have hj : m_impl_Mine_hasJunctions m exits = m_spec_l00Rises exits 0 (IntKind.wrap .i64 (m.Junctions - 1)) := rises_eq exits _
  have ht : m_spec_l17Time start = m_spec_l00In start 0 36000 := rfl
  simp only [m_impl_escapeOf, crews_eq, within_eq, l19Arr_eq, hj, ht, Bool.not_and, bne]
theorem escapeT_imp {m : gMine} {arr : List Int} {blocked : Int} {l : List gCrew} {start : Int} {exits : List Int} (h : (m_impl_escapeOf m arr blocked l start exits).2 = 0) : (m_impl_escapeOf m arr blocked l start exits).1 = gescape.mk m arr blocked ∧ MineIn m ∧ CrewsIn m l ∧ (0 ≤ start ∧ start ≤ 36000) ∧ (arr.length : Int) = m.Junctions ∧ ∀ y ∈ exits, 0 ≤ y ∧ y < m.Junctions := by
  rw [escapeT] at h ⊢
  cases h1 : m_spec_l04Ok m <;> cases h2 : m_spec_l19List m l <;> cases h4 : m_spec_l00In blocked (-1) ((m.Airways.length : Int) - 1) <;> cases h5 : m_spec_l17Time start <;> cases h6 : m_spec_l19Arrivals m arr <;> cases h8 : m_spec_l00Rises exits 0 (IntKind.wrap .i64 (m.Junctions - 1)) <;> simp only [h1, h2, h4, h5, h6, h8, Bool.not_true, Bool.not_false, Bool.or_true, Bool.or_false, Bool.or_self, Bool.cond_true, Bool.cond_false] at h ⊢ <;> try (exact absurd h (by decide))
  exact ⟨trivial, l04Ok_imp h1, l19List_imp h2, l17Time_imp h5, l19Arr_imp h6, rises_inJ (l04Ok_imp h1) h8⟩
section
variable {m : gMine} {arr : List Int} {blocked : Int} {l : List gCrew} {start : Int} {exits : List Int}
theorem escT_M (h : (m_impl_escapeOf m arr blocked l start exits).2 = 0) : MineIn (m_impl_escapeOf m arr blocked l start exits).1.mine := by
  have g := escapeT_imp h
  rw [g.1]; exact g.2.1
theorem escT_L (h : (m_impl_escapeOf m arr blocked l start exits).2 = 0) : ((m_impl_escapeOf m arr blocked l start exits).1.arrivals.length : Int) = (m_impl_escapeOf m arr blocked l start exits).1.mine.Junctions := by
  have g := escapeT_imp h
  rw [g.1]; exact g.2.2.2.2.1
theorem escT_S (h : (m_impl_escapeOf m arr blocked l start exits).2 = 0) : 0 ≤ start ∧ start ≤ 36000 := (escapeT_imp h).2.2.2.1
theorem escT_N (h : (m_impl_escapeOf m arr blocked l start exits).2 = 0) : l.length ≤ 8 := (escapeT_imp h).2.2.1.1
theorem escT_C (h : (m_impl_escapeOf m arr blocked l start exits).2 = 0) {i : Int} (hi : 0 ≤ i ∧ i < l.length) : CrewIn (m_impl_escapeOf m arr blocked l start exits).1.mine (at' l i) := by
  have g := escapeT_imp h
  rw [g.1]; exact at_all g.2.2.1.2 hi
theorem escT_E (h : (m_impl_escapeOf m arr blocked l start exits).2 = 0) {i : Int} (hi : 0 ≤ i ∧ i < l.length) : ∀ y ∈ exits, 0 ≤ y ∧ y < (m_impl_escape_times (m_impl_escapeOf m arr blocked l start exits).1 (at' l i) start).length := by
  have g := escapeT_imp h
  have hc : CrewIn m (at' l i) := at_all g.2.2.1.2 hi
  rw [g.1, times_eq g.2.1 hc g.2.2.2.1]
  have := (times_SmB (arr := arr) (blocked := blocked) g.2.1 hc g.2.2.2.1).1
  intro y hy
  have := g.2.2.2.2.2 y hy
  omega
theorem spcT_E {c : gCrew} (hm : MineIn m) (hc : CrewIn m c) (hs : 0 ≤ start ∧ start ≤ 36000) (he : m_spec_l00Rises exits 0 (IntKind.wrap .i64 (m.Junctions - 1)) = true) : ∀ y ∈ exits, 0 ≤ y ∧ y < (m_spec_l19Times m arr blocked c start).length := by
  have := (times_SmB (arr := arr) (blocked := blocked) hm hc hs).1
  intro y hy
  have := rises_inJ hm he y hy
  omega
end
theorem first_eq (times exits : List Int) : m_impl_firstReached times exits = m_spec_l19Exit times exits := rfl
theorem TrappedCrews_eq (m : gMine) (arr : List Int) (blocked : Int) (list : List gCrew) (start : Int) (exits : List Int) : m_impl_TrappedCrews m arr blocked list start exits = m_spec_TrappedCrews m arr blocked list start exits := by
  have hT := escapeT m arr blocked list start exits
  have hI := escapeT_imp (m := m) (arr := arr) (blocked := blocked) (l := list) (start := start) (exits := exits)
  simp only [m_impl_TrappedCrews, m_spec_TrappedCrews]
  cases h1 : (!(m_spec_l04Ok m)) || (!(m_spec_l19List m list)) with
  | true => rw [h1] at hT; simp only [hT, Bool.cond_true]; rfl
  | false =>
    cases h2 : (!(m_spec_l00In blocked (-1) ((m.Airways.length : Int) - 1))) || (!(m_spec_l17Time start)) with
    | true => rw [h1, h2] at hT; simp only [hT, Bool.cond_true, Bool.cond_false]; rfl
    | false =>
      cases h3 : (!(m_spec_l19Arrivals m arr)) || (!(m_spec_l00Rises exits 0 (IntKind.wrap .i64 (m.Junctions - 1)))) with
      | true => rw [h1, h2, h3] at hT; simp only [hT, Bool.cond_true, Bool.cond_false]; rfl
      | false =>
        rw [h1, h2, h3] at hT
        simp only [Bool.cond_false] at hT ⊢
        have g := hI (by rw [hT])
        have hb : ((m_impl_escapeOf m arr blocked list start exits).2 != 0) = false := by rw [hT]; rfl
        rw [hb]
        simp only [Bool.cond_false]
        refine LOOP_sim (fun (x y : List Int × Int) => x = y ∧ 0 ≤ x.2 ∧ x.2 ≤ list.length) (fun x => ((list.length : Int) - x.2).toNat) (fun y => ((list.length : Int) - y.2).toNat) ?_ _ _ _ _ ⟨rfl, by dsimp only; omega, by dsimp only; omega⟩ (by dsimp only; omega) (by dsimp only; omega)
        rintro rec₁ rec₂ ⟨a, i⟩ y ⟨hy, h0, hl⟩ ih
        subst hy
        dsimp only at h0 hl ih
        simp only [m_impl_TrappedCrews_b1, m_spec_TrappedCrews_b1]
        by_cases hi : i < list.length
        · have hc : CrewIn m (at' list i) := at_all g.2.2.1.2 ⟨h0, hi⟩
          simp only [hi, decide_true, Bool.cond_true, hT, times_eq g.2.1 hc g.2.2.2.1, first_eq]
          cases decide (m_spec_l19Exit (m_spec_l19Times m arr blocked (at' list i) start) exits < 0) with
          | true => exact ih _ _ ⟨rfl, by dsimp only; omega, by dsimp only; omega⟩ (by dsimp only; omega) (by dsimp only; omega)
          | false => exact ih _ _ ⟨rfl, by dsimp only; omega, by dsimp only; omega⟩ (by dsimp only; omega) (by dsimp only; omega)
        · simp only [hi, decide_false, Bool.cond_false]
theorem TrappedCrews_len (m : gMine) (arr : List Int) (blocked : Int) (list : List gCrew) (start : Int) (exits : List Int) : (m_spec_TrappedCrews m arr blocked list start exits).1.length ≤ 1048576 := by
  simp only [m_spec_TrappedCrews]
  cases h1 : (!(m_spec_l04Ok m)) || (!(m_spec_l19List m list)) with
  | true => simp
  | false =>
    simp only [Bool.or_eq_false_iff, Bool.not_eq_false'] at h1
    have hc := l19List_imp h1.2
    cases (!(m_spec_l00In blocked (-1) ((m.Airways.length : Int) - 1))) || (!(m_spec_l17Time start)) with
    | true => simp
    | false =>
      cases (!(m_spec_l19Arrivals m arr)) || (!(m_spec_l00Rises exits 0 (IntKind.wrap .i64 (m.Junctions - 1)))) with
      | true => simp
      | false =>
        simp only [Bool.cond_false]
        refine LOOP_post (fun (x : List Int × Int) => 0 ≤ x.2 ∧ x.2 ≤ list.length ∧ (x.1.length : Int) ≤ x.2) (fun x => ((list.length : Int) - x.2).toNat) (fun _ (r : List Int × Int) => r.1.length ≤ 1048576) ?_ _ _ ⟨by dsimp only; omega, by dsimp only; omega, by simp⟩ (by dsimp only; omega)
        rintro rec ⟨a, i⟩ ⟨h0, hl, hn⟩ ih
        dsimp only at h0 hl hn ih ⊢
        simp only [m_spec_TrappedCrews_b1]
        have := hc.1
        by_cases hi : i < list.length
        · simp only [hi, decide_true, Bool.cond_true]
          cases decide (m_spec_l19Exit (m_spec_l19Times m arr blocked (at' list i) start) exits < 0) with
          | true => exact ih _ ⟨by dsimp only; omega, by dsimp only; omega, by simp; omega⟩ (by dsimp only; omega)
          | false => exact ih _ ⟨by dsimp only; omega, by dsimp only; omega, by dsimp only; omega⟩ (by dsimp only; omega)
        · simp only [hi, decide_false, Bool.cond_false]; omega

end Go.Proofs.Ythcboapohklfnaa
