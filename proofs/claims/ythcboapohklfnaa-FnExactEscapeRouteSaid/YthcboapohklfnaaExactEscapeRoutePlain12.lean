/-
  PLAIN LAWS about the models: no program in sight. Conditions: as each theorem states them.
-/
import Derived.Test.YthcboapohklfnaaExactEscapeRoutePlain11
set_option linter.unusedVariables false
set_option linter.unusedSimpArgs false
set_option linter.unusedSectionVars false
set_option linter.unnecessarySimpa false
namespace Go.Proofs.Ythcboapohklfnaa
open Go Go.RowKit Go.Proofs Go.Proofs.Ythcboapohklfnaa.E
/-! ## The step between two junctions -/
theorem step_is {m : gMine} (hm : MineIn m) (blocked : Int) {speed : Int} (hs : 10 ≤ speed ∧ speed ≤ 300) (u v : Int) : (m_spec_l19Step m blocked speed u v = -1 ∧ ∀ k, ¬ Leads m blocked u v k) ∨ ∃ k, Leads m blocked u v k ∧ m_spec_l19Step m blocked speed u v = cwW m speed k ∧ ∀ k', Leads m blocked u v k' → cwW m speed k ≤ cwW m speed k' := by
  have hq : ∀ k : Int, 0 ≤ k → k < m.Airways.length → (((k == blocked) || ((((at' m.Airways k).From != u) || ((at' m.Airways k).To != v)) && (((at' m.Airways k).From != v) || ((at' m.Airways k).To != u)))) = false ↔ Leads m blocked u v k) := by
    intro k h0 h1
    simp only [Bool.or_eq_false_iff, Bool.and_eq_false_iff, bne_eq_false_iff_eq, beq_eq_false_iff_ne, ne_eq, Leads]
    constructor
    · rintro ⟨h2, h3⟩; exact ⟨⟨h0, h1⟩, h2, h3⟩
    · rintro ⟨_, h2, h3⟩; exact ⟨h2, h3⟩
  refine LOOP_post (fun (x : Int × Int) => (0 ≤ x.1 ∧ x.1 ≤ m.Airways.length) ∧ ((x.2 = -1 ∧ ∀ k, k < x.1 → ¬ Leads m blocked u v k) ∨ ∃ k, k < x.1 ∧ Leads m blocked u v k ∧ x.2 = cwW m speed k ∧ ∀ k', k' < x.1 → Leads m blocked u v k' → cwW m speed k ≤ cwW m speed k')) (fun x => ((m.Airways.length : Int) - x.1).toNat) (fun _ (r : Int) => (r = -1 ∧ ∀ k, ¬ Leads m blocked u v k) ∨ ∃ k, Leads m blocked u v k ∧ r = cwW m speed k ∧ ∀ k', Leads m blocked u v k' → cwW m speed k ≤ cwW m speed k') ?_ _ _ ⟨by dsimp only; omega, .inl ⟨rfl, fun k hk hl => by have := hl.1.1; dsimp only at hk; omega⟩⟩ (by dsimp only; omega)
  rintro rec ⟨i, b⟩ ⟨hr, hI⟩ ih
  dsimp only at hr hI ih ⊢
  simp only [m_spec_l19Step_b1]
  by_cases hi : i < m.Airways.length
  · simp only [hi, decide_true, Bool.cond_true]
    have hw := walk_rng (hm.at (i := i) ⟨hr.1, hi⟩) hs
    have hwe : m_spec_l19Walk (at' m.Airways i) speed = cwW m speed i := rfl
    have hlt : ∀ k, k < i + 1 → k < i ∨ k = i := fun k hk => by omega
    cases hc : (i == blocked) || ((((at' m.Airways i).From != u) || ((at' m.Airways i).To != v)) && (((at' m.Airways i).From != v) || ((at' m.Airways i).To != u))) with
    | true =>
      have hn : ¬ Leads m blocked u v i := fun hl => by have := (hq i hr.1 hi).2 hl; rw [hc] at this; simp at this
      simp only [Bool.cond_true]
      refine ih _ ⟨by dsimp only; omega, ?_⟩ (by dsimp only; omega)
      rcases hI with ⟨h1, h2⟩ | ⟨k, h1, h2, h3, h4⟩
      · refine .inl ⟨h1, fun k hk hl => ?_⟩
        rcases hlt k hk with h | h
        · exact h2 k h hl
        · subst h; exact hn hl
      · refine .inr ⟨k, by dsimp only; omega, h2, h3, fun k' hk' hl => ?_⟩
        rcases hlt k' hk' with h | h
        · exact h4 k' h hl
        · subst h; exact absurd hl hn
    | false =>
      have hl := (hq i hr.1 hi).1 hc
      simp only [Bool.cond_false, hwe]
      have hw' : 0 ≤ cwW m speed i := hw.1
      by_cases hb : b < 0 ∨ cwW m speed i < b
      · have hbb : (decide (b < 0) || decide (cwW m speed i < b)) = true := by simpa using hb
        rw [hbb]
        refine ih _ ⟨by dsimp only; omega, .inr ⟨i, by dsimp only; omega, hl, rfl, fun k' hk' hl' => ?_⟩⟩ (by dsimp only; omega)
        rcases hlt k' hk' with h | h
        · rcases hI with ⟨h1, h2⟩ | ⟨k, h1, h2, h3, h4⟩
          · exact absurd hl' (h2 k' h)
          · have := h4 k' h hl'
            have hk := walk_rng (hm.at h2.1) hs
            have hk' : 0 ≤ cwW m speed k := hk.1
            omega
        · subst h; omega
      · have hbb : (decide (b < 0) || decide (cwW m speed i < b)) = false := by simpa using hb
        rw [hbb]
        refine ih _ ⟨by dsimp only; omega, ?_⟩ (by dsimp only; omega)
        rcases hI with ⟨h1, h2⟩ | ⟨k, h1, h2, h3, h4⟩
        · omega
        · refine .inr ⟨k, by dsimp only; omega, h2, h3, fun k' hk' hl' => ?_⟩
          rcases hlt k' hk' with h | h
          · exact h4 k' h hl'
          · subst h; omega
  · simp only [hi, decide_false, Bool.cond_false]
    rcases hI with ⟨h1, h2⟩ | ⟨k, h1, h2, h3, h4⟩
    · exact .inl ⟨h1, fun k hl => h2 k (by have := hl.1.2; omega) hl⟩
    · exact .inr ⟨k, h2, h3, fun k' hl => h4 k' (by have := hl.1.2; omega) hl⟩
theorem between_eq {e : gescape} (hm : MineIn e.mine) (u v speed : Int) : m_impl_escape_between e u v speed = (m_spec_l19Step e.mine e.blocked speed u v, decide (0 ≤ m_spec_l19Step e.mine e.blocked speed u v)) := by
  simp only [m_impl_escape_between, m_spec_l19Step]
  have h : ∀ (f : Nat) (i b : Int), 0 ≤ i → i ≤ e.mine.Airways.length → ((e.mine.Airways.length : Int) - i).toNat < f → LOOP (m_impl_escape_between_b1 e u v speed) (fun (x1 : Int × Int) => (x1.1, decide (0 ≤ x1.1))) f (b, i) = (LOOP (m_spec_l19Step_b1 e.mine e.blocked speed u v) (fun (x1 : Int × Int) => x1.2) f (i, b), decide (0 ≤ LOOP (m_spec_l19Step_b1 e.mine e.blocked speed u v) (fun (x1 : Int × Int) => x1.2) f (i, b))) := by
    intro f
    induction f with
    | zero => intro i b _ _ h; omega
    | succ f ih =>
      intro i b h0 h1 h2
      simp only [LOOP]
      by_cases hi : i < e.mine.Airways.length
      · have ha := hm.at (i := i) ⟨h0, hi⟩
        unfold AirIn at ha
        have hne : (at' e.mine.Airways i).From ≠ (at' e.mine.Airways i).To := by omega
        have ih1 := fun b' => ih (i + 1) b' (by omega) (by omega) (by omega)
        have hwe : m_spec_l19Walk (at' e.mine.Airways i) speed = m_impl_Airway_walkTime (at' e.mine.Airways i) speed := rfl
        have hc : ((((m_impl_Airway_other (at' e.mine.Airways i) u).2 && ((m_impl_Airway_other (at' e.mine.Airways i) u).1 == v)) && (i != e.blocked))) = !((i == e.blocked) || ((((at' e.mine.Airways i).From != u) || ((at' e.mine.Airways i).To != v)) && (((at' e.mine.Airways i).From != v) || ((at' e.mine.Airways i).To != u)))) := by
          simp only [m_impl_Airway_other, bne, Bool.not_or, Bool.not_and, Bool.not_not]
          by_cases h3 : u = (at' e.mine.Airways i).From
          · subst h3
            have h4 : ((at' e.mine.Airways i).To == (at' e.mine.Airways i).From) = false := by simpa using fun h => hne h.symm
            simp [h4, Bool.and_comm]
          · have h4 : (u == (at' e.mine.Airways i).From) = false := by simpa using h3
            have h5 : ((at' e.mine.Airways i).From == u) = false := by simpa using fun h => h3 h.symm
            by_cases h6 : u = (at' e.mine.Airways i).To
            · subst h6
              simp [h4, h5, Bool.and_comm]
            · have h7 : (u == (at' e.mine.Airways i).To) = false := by simpa using h6
              have h8 : ((at' e.mine.Airways i).To == u) = false := by simpa using fun h => h6 h.symm
              simp [h4, h5, h7, h8]
        simp only [m_impl_escape_between_b1, m_spec_l19Step_b1, hi, decide_true, Bool.cond_true, hwe, hc]
        cases ((i == e.blocked) || ((((at' e.mine.Airways i).From != u) || ((at' e.mine.Airways i).To != v)) && (((at' e.mine.Airways i).From != v) || ((at' e.mine.Airways i).To != u)))) with
        | true => exact ih1 _
        | false =>
          simp only [Bool.not_false, Bool.true_and, Bool.cond_false]
          cases (decide (b < 0) || decide (m_impl_Airway_walkTime (at' e.mine.Airways i) speed < b)) with
          | true => exact ih1 _
          | false => exact ih1 _
      · simp only [m_impl_escape_between_b1, m_spec_l19Step_b1, hi, decide_false, Bool.cond_false]
  exact h _ 0 (-1) (by omega) (by omega) (by omega)

end Go.Proofs.Ythcboapohklfnaa
