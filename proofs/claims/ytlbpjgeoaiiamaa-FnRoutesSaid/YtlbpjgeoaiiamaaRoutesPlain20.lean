/-
  PLAIN LAWS about the models: no program in sight. Conditions: as each theorem states them.
-/
import Derived.Test.YtlbpjgeoaiiamaaRoutesPlain19
set_option linter.unusedVariables false
set_option linter.unusedSimpArgs false
set_option linter.unusedSectionVars false
set_option linter.unnecessarySimpa false
namespace Go.Proofs.Ytlbpjgeoaiiamaa
open Go Go.RowKit Go.Proofs Go.Proofs.Ytlbpjgeoaiiamaa.E
/-! ## What the head of an ask for a way out comes to -/
theorem escapeOf1 (m : gMine) (arr : List Int) (blocked : Int) (c : gCrew) (start : Int) : (m_impl_escapeOf m arr blocked [c] start []).2.1 = m_spec_l19Ask m arr blocked c start ∧ (m_spec_l19Ask m arr blocked c start = 0 → (m_impl_escapeOf m arr blocked [c] start []).1 = gescape.mk m arr blocked) := by
  have hj : m_impl_Mine_hasJunctions m [] = true := rfl
  simp only [m_impl_escapeOf, m_spec_l19Ask, crews1_eq, l19Arr_eq, within_eq, m_spec_l17Time, hj]
  cases m_spec_l04Ok m <;> cases m_spec_l19One c <;> cases decide (m.Junctions ≤ c.Junction) <;> cases m_spec_l00In blocked (-1) ((m.Airways.length : Int) - 1) <;> cases m_spec_l00In start 0 36000 <;> cases hl : ((arr.length : Int) == m.Junctions) <;> cases m_impl_allWithin arr (-1) 1000000000000 <;> simp [bne, hl]
theorem l19Ask_imp {m : gMine} {arr : List Int} {blocked : Int} {c : gCrew} {start : Int} (h : m_spec_l19Ask m arr blocked c start = 0) : MineIn m ∧ CrewIn m c ∧ (0 ≤ start ∧ start ≤ 36000) ∧ (arr.length : Int) = m.Junctions := by
  simp only [m_spec_l19Ask, l19Arr_eq, m_spec_l17Time] at h
  cases h1 : m_spec_l04Ok m <;> cases h2 : m_spec_l19One c <;> cases h3 : decide (m.Junctions ≤ c.Junction) <;> cases h4 : m_spec_l00In blocked (-1) ((m.Airways.length : Int) - 1) <;> cases h5 : m_spec_l00In start 0 36000 <;> cases h6 : ((arr.length : Int) == m.Junctions) <;> cases h7 : m_impl_allWithin arr (-1) 1000000000000 <;> simp [h1, h2, h3, h4, h5, h6, h7] at h
  have hc := one19_imp h2
  simp only [decide_eq_false_iff_not] at h3
  exact ⟨l04Ok_imp h1, ⟨⟨hc.1, by omega⟩, hc.2⟩, l00In_imp h5, by simpa using h6⟩
theorem l19Ask_impM {m : gMine} {arr : List Int} {blocked : Int} {c : gCrew} {start : Int} (h : m_spec_l19Ask m arr blocked c start = 0) : MineIn m := (l19Ask_imp h).1
theorem l19Ask_impC {m : gMine} {arr : List Int} {blocked : Int} {c : gCrew} {start : Int} (h : m_spec_l19Ask m arr blocked c start = 0) : CrewIn m c := (l19Ask_imp h).2.1
theorem l19Ask_impS {m : gMine} {arr : List Int} {blocked : Int} {c : gCrew} {start : Int} (h : m_spec_l19Ask m arr blocked c start = 0) : 0 ≤ start ∧ start ≤ 36000 := (l19Ask_imp h).2.2.1
theorem l19Ask_impL {m : gMine} {arr : List Int} {blocked : Int} {c : gCrew} {start : Int} (h : m_spec_l19Ask m arr blocked c start = 0) : (arr.length : Int) = m.Junctions := (l19Ask_imp h).2.2.2
theorem escapeOf_imp {m : gMine} {arr : List Int} {blocked : Int} {l : List gCrew} {start : Int} {exits : List Int} (h : (m_impl_escapeOf m arr blocked l start exits).2.1 = 0) : (m_impl_escapeOf m arr blocked l start exits).1 = gescape.mk m arr blocked ∧ m_impl_ValidCrews m l = true ∧ (0 ≤ start ∧ start ≤ 36000) ∧ (arr.length : Int) = m.Junctions ∧ m_impl_Mine_hasJunctions m exits = true := by
  simp only [m_impl_escapeOf, within_eq] at h ⊢
  cases h1 : m_impl_ValidCrews m l <;> cases h4 : m_spec_l00In blocked (-1) ((m.Airways.length : Int) - 1) <;> cases h5 : m_spec_l00In start 0 36000 <;> cases h6 : ((arr.length : Int) == m.Junctions) <;> cases h7 : m_impl_allWithin arr (-1) 1000000000000 <;> cases h8 : m_impl_Mine_hasJunctions m exits <;> simp [h1, h4, h5, h6, h7, h8, bne] at h ⊢
  exact ⟨l00In_imp h5, by simpa using h6⟩
section
variable {m : gMine} {arr : List Int} {blocked : Int} {c : gCrew} {l : List gCrew} {start : Int} {exits : List Int}
theorem escapeOf_impM (h : (m_impl_escapeOf m arr blocked l start exits).2.1 = 0) : MineIn (m_impl_escapeOf m arr blocked l start exits).1.mine := by
  have g := escapeOf_imp h
  rw [g.1]
  have h2 := g.2.1
  simp only [m_impl_ValidCrews, mine_eq] at h2
  cases ho : m_spec_l04Ok m with
  | false => simp [ho] at h2
  | true => exact l04Ok_imp ho
theorem escapeOf_impL (h : (m_impl_escapeOf m arr blocked l start exits).2.1 = 0) : ((m_impl_escapeOf m arr blocked l start exits).1.arrivals.length : Int) = (m_impl_escapeOf m arr blocked l start exits).1.mine.Junctions := by
  have g := escapeOf_imp h
  rw [g.1]; exact g.2.2.2.1
theorem escapeOf_impS (h : (m_impl_escapeOf m arr blocked l start exits).2.1 = 0) : 0 ≤ start ∧ start ≤ 36000 := (escapeOf_imp h).2.2.1
theorem escapeOf_impC (h : (m_impl_escapeOf m arr blocked [c] start exits).2.1 = 0) : CrewIn (m_impl_escapeOf m arr blocked [c] start exits).1.mine c := by
  have g := escapeOf_imp h
  rw [g.1]
  have h2 := g.2.1
  rw [crews1_eq, Bool.and_eq_true, Bool.and_eq_true, Bool.not_eq_true', decide_eq_false_iff_not] at h2
  have hc := one19_imp h2.2.1
  exact (⟨⟨hc.1, by have := h2.2.2; omega⟩, hc.2⟩ : CrewIn m c)
end

end Go.Proofs.Ytlbpjgeoaiiamaa
