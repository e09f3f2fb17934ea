/-
  PLAIN LAWS about the models: no program in sight. Conditions: as each theorem states them.
-/
import Derived.Test.YtahohnhmdlndfaaExactLastArrivalPlain10
set_option linter.unusedVariables false
set_option linter.unusedSimpArgs false
set_option linter.unusedSectionVars false
set_option linter.unnecessarySimpa false
namespace Go.Proofs.Ytahohnhmdlndfaa
open Go Go.RowKit Go.Proofs Go.Proofs.Ytahohnhmdlndfaa.E
/-! ## LastArrival -/
theorem last_spec {s : List Int} (h : 0 < s.length) (hl : ∀ j : Int, 0 ≤ j → j < s.length → -1 ≤ at' s j) {b : (Int × Int → Int × Int) → (Int × Int → Int × Int) → Int × Int → Int × Int}
    (hb : ∀ rec k x, b rec k x = bif decide (x.2 < (s.length : Int)) then rec (m_spec_l00Max x.1 (at' s x.2), x.2 + 1) else k (x.1, x.2)) (F : Int → Int × Int) :
    LOOP b (fun x => F x.1) (((s.length : Int) - 0 : Int).toNat + 1) ((-1), 0) = F (m_slices_Max_int64 s) := by
  obtain ⟨r, h1, h2, h3⟩ := LOOP_post (b := b) (k := fun x => F x.1) (fun (x : Int × Int) => 0 ≤ x.2 ∧ x.2 ≤ s.length ∧ (∀ q : Int, 0 ≤ q → q < x.2 → at' s q ≤ x.1) ∧ (x.1 = -1 ∧ x.2 = 0 ∨ ∃ q : Int, 0 ≤ q ∧ q < s.length ∧ at' s q = x.1)) (fun x => ((s.length : Int) - x.2).toNat)
    (fun _ r => ∃ v, r = F v ∧ (∀ q : Int, 0 ≤ q → q < s.length → at' s q ≤ v) ∧ ∃ q : Int, 0 ≤ q ∧ q < s.length ∧ at' s q = v)
    (fun rec x hx ih => by
      obtain ⟨h1, h2, h3, h4⟩ := hx
      rw [hb]
      by_cases hi : x.2 < (s.length : Int)
      · simp only [hi, decide_true, Bool.cond_true]
        have hm : m_spec_l00Max x.1 (at' s x.2) = if at' s x.2 < x.1 then x.1 else at' s x.2 := by
          simp only [m_spec_l00Max]; by_cases hc : at' s x.2 < x.1 <;> simp [hc]
        rw [hm]
        refine ih _ ⟨by dsimp only; omega, by dsimp only; omega, fun q hq0 hq => ?_, .inr ?_⟩ (by dsimp only; omega)
        · dsimp only at hq ⊢
          by_cases e : q = x.2
          · subst e; split <;> omega
          · have := h3 q hq0 (by omega); split <;> omega
        · dsimp only
          have hlx := hl x.2 h1 hi
          split
          · rename_i hc
            rcases h4 with h4 | h4
            · omega
            · exact h4
          · exact ⟨x.2, h1, hi, rfl⟩
      · simp only [hi, decide_false, Bool.cond_false]
        refine ⟨x.1, rfl, fun q hq0 hq => h3 q hq0 (by omega), ?_⟩
        rcases h4 with h4 | h4
        · omega
        · exact h4) (((s.length : Int) - 0 : Int).toNat + 1) ((-1), 0) ⟨by dsimp only; omega, by dsimp only; omega, fun q h1 h2 => by dsimp only at h2; omega, .inl ⟨rfl, rfl⟩⟩ (by dsimp only; omega)
  rw [h1]
  obtain ⟨hm1, q, hq0, hq1, hq2⟩ := max_spec h
  obtain ⟨q', h4, h5, h6⟩ := h3
  have a1 := hm1 q' h4 h5
  have a2 := h2 q hq0 hq1
  have : r = m_slices_Max_int64 s := by omega
  rw [this]
theorem LastArrival_eq (m : gMine) (flows : List Int) (f : gFire) : m_impl_LastArrival m flows f = m_spec_LastArrival m flows f := by
  simp only [m_impl_LastArrival, m_spec_LastArrival, fireCode0]
  cases hc : (m_spec_l17Ask m flows f != 0) with
  | true => rfl
  | false =>
    have h := l17Ask_imp (by simpa using hc)
    have h2 := arrivals_SmB h.1 h.2.1 h.2.2
    have hJ := h.1.1
    simp only [Bool.cond_false, arrivals_eq h.1 h.2.1 h.2.2]
    have h3 := last_spec (s := m_spec_l17Arrival m flows f) (by omega) (arrivals_ge h.1 h.2.1 h.2.2) (b := m_spec_LastArrival_b1 m flows f) (fun rec k x => rfl) (fun v => bif decide (v < 0) then (0, 3) else (v, 0))
    refine Eq.trans ?_ h3.symm
    simp only [m_impl_orNotFound]
    by_cases hn : m_slices_Max_int64 (m_spec_l17Arrival m flows f) < 0
    · have : ¬ 0 ≤ m_slices_Max_int64 (m_spec_l17Arrival m flows f) := by omega
      simp [hn, this]
    · have : 0 ≤ m_slices_Max_int64 (m_spec_l17Arrival m flows f) := by omega
      simp [hn, this]

end Go.Proofs.Ytahohnhmdlndfaa
