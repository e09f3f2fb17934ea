/-
  PLAIN LAWS about the models: no program in sight. Conditions: as each theorem states them.
-/
import Derived.Test.YthcboapohklfnaaExactNearestRefugePlain10
set_option linter.unusedVariables false
set_option linter.unusedSimpArgs false
set_option linter.unusedSectionVars false
set_option linter.unnecessarySimpa false
namespace Go.Proofs.Ythcboapohklfnaa
open Go Go.RowKit Go.Proofs Go.Proofs.Ythcboapohklfnaa.E
/-! ## NearestRefuge -/
theorem escTimes_len {m : gMine} {arr : List Int} {blocked : Int} {c : gCrew} {start : Int} (h : (m_impl_escapeOf m arr blocked [c] start []).2.1 = 0) : ((m_impl_escape_times (m_impl_escapeOf m arr blocked [c] start []).1 c start).length : Int) = m.Junctions := by
  have g := escapeOf1 m arr blocked c start
  rw [g.1] at h
  have hi := l19Ask_imp h
  rw [g.2 h, times_eq hi.1 hi.2.1 hi.2.2.1]
  exact (times_SmB hi.1 hi.2.1 hi.2.2.1).1
theorem askTimes_len {m : gMine} {arr : List Int} {blocked : Int} {c : gCrew} {start : Int} (h : (m_spec_EscapeTimes m arr blocked c start).2 = 0) : ((m_spec_EscapeTimes m arr blocked c start).1.length : Int) = m.Junctions := by
  simp only [m_spec_EscapeTimes] at h ⊢
  cases hc : (m_spec_l19Ask m arr blocked c start != 0) with
  | true => rw [hc] at h; simp only [Bool.cond_true] at h; simp [h] at hc
  | false =>
    have hi := l19Ask_imp (by simpa using hc)
    exact (times_SmB hi.1 hi.2.1 hi.2.2.1).1
theorem NearestRefuge_eq (m : gMine) (arr : List Int) (blocked : Int) (c : gCrew) (start : Int) (list : List gRefuge) : m_impl_NearestRefuge m arr blocked c start list = m_spec_NearestRefuge m arr blocked c start list := by
  obtain ⟨h1, h2⟩ := escapeOf1 m arr blocked c start
  simp only [m_impl_NearestRefuge, m_spec_NearestRefuge, refuges_eq, h1]
  cases m_spec_l20Ok m list with
  | false => rfl
  | true =>
    simp only [Bool.not_true, Bool.cond_false]
    have hE : m_spec_EscapeTimes m arr blocked c start = bif m_spec_l19Ask m arr blocked c start != 0 then ([], m_spec_l19Ask m arr blocked c start) else (m_spec_l19Times m arr blocked c start, 0) := rfl
    cases hc : (m_spec_l19Ask m arr blocked c start != 0) with
    | true => rw [hc] at hE; simp only [hE, Bool.cond_true, hc]
    | false =>
      rw [hc] at hE
      have h0 : m_spec_l19Ask m arr blocked c start = 0 := by simpa using hc
      have hi := l19Ask_imp h0
      simp only [hE, Bool.cond_false, bne_self_eq_false]
      refine LOOP_sim (fun (x : Int × Int) (y : Int × Int × Int) => x.1 = y.1 ∧ x.2 = y.2.2 ∧ (0 ≤ x.2 ∧ x.2 ≤ list.length) ∧ (0 ≤ x.1 → y.2.1 = at' (m_spec_l19Times m arr blocked c start) (at' list x.1).Junction)) (fun x => ((list.length : Int) - x.2).toNat) (fun y => ((list.length : Int) - y.2.2).toNat) ?_ _ _ _ _ ⟨rfl, rfl, by dsimp only; omega, fun h => by dsimp only at h; omega⟩ (by dsimp only; omega) (by dsimp only; omega)
      rintro rec₁ rec₂ ⟨a, i⟩ ⟨a', t, i'⟩ ⟨ha, hii, hr, ht⟩ ih
      dsimp only at ha hii hr ht ih
      subst ha hii
      simp only [m_impl_NearestRefuge_b1, m_spec_NearestRefuge_b1, h2 h0, times_eq hi.1 hi.2.1 hi.2.2.1, hE, Bool.cond_false]
      by_cases hl : i < list.length
      · simp only [hl, decide_true, Bool.cond_true]
        have e : ((decide (a < 0)) || (decide ((at' (m_spec_l19Times m arr blocked c start) (at' list i).Junction) < (at' (m_spec_l19Times m arr blocked c start) (at' list a).Junction)))) = ((decide (a < 0)) || (decide ((at' (m_spec_l19Times m arr blocked c start) (at' list i).Junction) < t))) := by
          by_cases hn : a < 0
          · simp [hn]
          · rw [ht (by omega)]
        rw [e]
        cases (decide (0 ≤ at' (m_spec_l19Times m arr blocked c start) (at' list i).Junction) && ((decide (a < 0)) || (decide ((at' (m_spec_l19Times m arr blocked c start) (at' list i).Junction) < t)))) with
        | true => exact ih _ _ ⟨rfl, rfl, by dsimp only; omega, fun _ => rfl⟩ (by dsimp only; omega) (by dsimp only; omega)
        | false => exact ih _ _ ⟨rfl, rfl, by dsimp only; omega, ht⟩ (by dsimp only; omega) (by dsimp only; omega)
      · simp only [hl, decide_false, Bool.cond_false]
        by_cases hn : a < 0
        · simp [hn]
        · simp only [hn, decide_false, Bool.cond_false]
          rw [ht (by omega)]

end Go.Proofs.Ythcboapohklfnaa
