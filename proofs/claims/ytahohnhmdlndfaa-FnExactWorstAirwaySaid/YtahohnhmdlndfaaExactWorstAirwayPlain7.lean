/-
  PLAIN LAWS about the models: no program in sight. Conditions: as each theorem states them.
-/
import Derived.Test.YtahohnhmdlndfaaExactWorstAirwayPlain6
set_option linter.unusedVariables false
set_option linter.unusedSimpArgs false
set_option linter.unusedSectionVars false
set_option linter.unnecessarySimpa false
namespace Go.Proofs.Ytahohnhmdlndfaa
open Go Go.RowKit Go.Proofs Go.Proofs.Ytahohnhmdlndfaa.E
/-! ## WorstAirway -/
theorem index_spec {s : List Int} {v : Int} {b : Int} (h0 : 0 ≤ b) (hb : b < s.length) (hv : at' s b = v) (hl : ∀ q : Int, 0 ≤ q → q < b → at' s q < v) : m_slices_Index_int64 s v = b := by
  rcases LOOP_find (b := m_slices_Index_int64_b1 s v) (k := fun _ => (-1)) (n := (s.length : Int)) (fun i => v == at' s i) (fun i => i) (fun rec i h0 h1 => by simp only [m_slices_Index_int64_b1, h1, decide_true, Bool.cond_true]) (fun rec => by simp [m_slices_Index_int64_b1]) (((s.length : Int) - 0 : Int).toNat + 1) 0 (by omega) (by omega) (by omega) with ⟨j, h1, h2, h3, h4, h5⟩ | ⟨h1, _⟩
  · refine Eq.trans h5 ?_
    simp only [beq_iff_eq] at h3
    by_cases hj : j < b
    · have := hl j h1 hj; omega
    · by_cases hj' : b < j
      · have := h4 b h0 hj'; rw [hv] at this; simp at this
      · omega
  · have := h1 b h0 hb; rw [hv] at this; simp at this
theorem best_spec {ends : List Int} {b : (Int × Int → Int × Int × Int) → (Int × Int → Int × Int × Int) → Int × Int → Int × Int × Int}
    (hb : ∀ rec k x, b rec k x = bif decide (x.2 < (ends.length : Int)) then bif decide ((at' ends x.1) < (at' ends x.2)) then rec (x.2, x.2 + 1) else rec (x.1, x.2 + 1) else k (x.1, x.2)) (h : 0 < ends.length) :
    LOOP b (fun x => (x.1, at' ends x.1, 0)) (((ends.length : Int) - 1 : Int).toNat + 1) (0, 1) = (m_slices_Index_int64 ends (m_slices_Max_int64 ends), m_slices_Max_int64 ends, 0) := by
  obtain ⟨i, h0, h1, h2, h3, h4⟩ := LOOP_post (b := b) (k := fun x => (x.1, at' ends x.1, 0)) (fun (x : Int × Int) => 0 ≤ x.1 ∧ x.1 < x.2 ∧ x.2 ≤ ends.length ∧ (∀ q : Int, 0 ≤ q → q < x.1 → at' ends q < at' ends x.1) ∧ ∀ q : Int, 0 ≤ q → q < x.2 → at' ends q ≤ at' ends x.1) (fun x => ((ends.length : Int) - x.2).toNat)
    (fun _ r => ∃ i : Int, 0 ≤ i ∧ i < ends.length ∧ (∀ q : Int, 0 ≤ q → q < i → at' ends q < at' ends i) ∧ (∀ q : Int, 0 ≤ q → q < ends.length → at' ends q ≤ at' ends i) ∧ r = (i, at' ends i, 0))
    (fun rec x hx ih => by
      obtain ⟨h1, h2, h3, h4, h5⟩ := hx
      rw [hb]
      by_cases hi : x.2 < (ends.length : Int)
      · simp only [hi, decide_true, Bool.cond_true]
        by_cases hl : at' ends x.1 < at' ends x.2
        · simp only [hl, decide_true, Bool.cond_true]
          refine ih _ ⟨by dsimp only; omega, by dsimp only; omega, by dsimp only; omega, fun q hq0 hq => ?_, fun q hq0 hq => ?_⟩ (by dsimp only; omega)
          · have := h5 q hq0 hq; dsimp only; omega
          · dsimp only at hq ⊢
            by_cases e : q = x.2
            · subst e; omega
            · have := h5 q hq0 (by omega); omega
        · simp only [hl, decide_false, Bool.cond_false]
          refine ih _ ⟨by dsimp only; omega, by dsimp only; omega, by dsimp only; omega, h4, fun q hq0 hq => ?_⟩ (by dsimp only; omega)
          dsimp only at hq ⊢
          by_cases e : q = x.2
          · subst e; omega
          · exact h5 q hq0 (by omega)
      · simp only [hi, decide_false, Bool.cond_false]
        exact ⟨x.1, h1, by omega, h4, fun q hq0 hq => h5 q hq0 (by omega), rfl⟩) (((ends.length : Int) - 1 : Int).toNat + 1) (0, 1) ⟨by dsimp only; omega, by dsimp only; omega, by dsimp only; omega, fun q h1 h2 => by dsimp only at h2; omega, fun q h1 h2 => (by rw [zero_q h1 h2]; exact Int.le_refl _)⟩ (by dsimp only; omega)
  rw [h4]
  obtain ⟨hm1, q, hq0, hq1, hq2⟩ := max_spec h
  have e : at' ends i = m_slices_Max_int64 ends := by
    have a1 := hm1 i h0 h1
    have a2 := h3 q hq0 hq1
    omega
  rw [index_spec (b := i) h0 h1 e (fun q hq0 hq => by rw [← e]; exact h2 q hq0 hq), e]
theorem WorstAirway_eq (m : gMine) (flows : List Int) (list : List gSource) : m_impl_WorstAirway m flows list = m_spec_WorstAirway m flows list := by
  simp only [m_impl_WorstAirway, m_spec_WorstAirway, gasCode_eq]
  cases hc : (m_spec_l13Ask m flows list != 0) with
  | true => rfl
  | false =>
    have h := l13Ask_imp (by simpa using hc)
    simp only [Bool.cond_false, ends_eq h.1 h.2.1]
    have hl : (m_spec_l13Ends m flows list).length = m.Airways.length := ends_len h.2.1
    rw [← hl]
    cases hz : (((m_spec_l13Ends m flows list).length : Int) == 0) with
    | true => rfl
    | false =>
      simp only [Bool.cond_false]
      refine (best_spec (b := m_spec_WorstAirway_b1 m flows list) (fun rec k x => rfl) ?_).symm
      simp at hz
      exact List.length_pos_iff.2 hz

end Go.Proofs.Ytahohnhmdlndfaa
