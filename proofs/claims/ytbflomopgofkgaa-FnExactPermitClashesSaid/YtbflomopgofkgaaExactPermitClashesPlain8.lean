/-
  PLAIN LAWS about the models: no program in sight. Conditions: as each theorem states them.
-/
import Derived.Test.YtbflomopgofkgaaExactPermitClashesPlain7
set_option linter.unusedVariables false
set_option linter.unusedSimpArgs false
set_option linter.unusedSectionVars false
set_option linter.unnecessarySimpa false
namespace Go.Proofs.Ytbflomopgofkgaa
open Go Go.RowKit Go.Proofs Go.Proofs.Ytbflomopgofkgaa.E
/-! ## The permits that clash, two by two -/
theorem PermitClashes_eq (m : gMine) (list : List gPermit) : m_impl_PermitClashes m list = m_spec_PermitClashes m list := by
  simp only [m_impl_PermitClashes, m_spec_PermitClashes, permits_eq]
  cases hv : m_spec_l26Ok m list with
  | false => rfl
  | true =>
    simp only [Bool.not_true, Bool.cond_false]
    have hP := l26Ok_imp hv
    refine LOOP_sim (b₁ := m_impl_PermitClashes_b1 m list) (b₂ := m_spec_PermitClashes_b1 m list) (fun x y => x = y ∧ 0 ≤ x.2) (fun x => ((list.length : Int) - x.2).toNat) (fun x => ((list.length : Int) - x.2).toNat) ?_ _ _ _ _ ⟨rfl, by dsimp only; omega⟩ (by dsimp only; omega) (by dsimp only; omega)
    rintro r1 r2 x y ⟨rfl, h0⟩ ih
    simp only [m_impl_PermitClashes_b1, m_spec_PermitClashes_b1]
    by_cases h1 : x.2 < (list.length : Int)
    · simp only [h1, decide_true, Bool.cond_true]
      refine LOOP_sim (b₁ := m_impl_PermitClashes_b2 m list r1 _ x) (b₂ := m_spec_PermitClashes_b2 m list r2 _ x) (fun p q => p = q ∧ x.2 < p.2) (fun p => ((list.length : Int) - p.2).toNat) (fun p => ((list.length : Int) - p.2).toNat) ?_ _ _ _ _ ⟨rfl, by dsimp only; omega⟩ (by dsimp only; omega) (by dsimp only; omega)
      rintro s1 s2 p q ⟨rfl, g0⟩ ih2
      simp only [m_impl_PermitClashes_b2, m_spec_PermitClashes_b2]
      by_cases h2 : p.2 < (list.length : Int)
      · simp only [h2, decide_true, Bool.cond_true]
        have k1 := (hP _ (at_mem ⟨h0, h1⟩)).2.2.2.2.2
        have k2 := (hP _ (at_mem (i := p.2) ⟨by omega, h2⟩)).2.2.2.2.2
        rw [clash_eq k1 k2, clash_sym]
        cases m_spec_l26Clash m (at' list x.2) (at' list p.2) with
        | false =>
          simp only [Bool.cond_false]
          exact ih2 _ _ ⟨rfl, by dsimp only; omega⟩ (by dsimp only; omega) (by dsimp only; omega)
        | true =>
          simp only [Bool.cond_true]
          exact ih2 _ _ ⟨rfl, by dsimp only; omega⟩ (by dsimp only; omega) (by dsimp only; omega)
      · simp only [h2, decide_false, Bool.cond_false]
        exact ih _ _ ⟨rfl, by dsimp only; omega⟩ (by dsimp only; omega) (by dsimp only; omega)
    · simp only [h1, decide_false, Bool.cond_false]
theorem PermitClashes_all (m : gMine) (list : List gPermit) : (m_spec_PermitClashes m list).1.length ≤ 256 ∧ ∀ e ∈ (m_spec_PermitClashes m list).1, e.length = 2 := by
  simp only [m_spec_PermitClashes]
  cases hv : m_spec_l26Ok m list with
  | false => simp
  | true =>
    simp only [Bool.not_true, Bool.cond_false]
    have hl := l26Ok_len hv
    refine LOOP_post (b := m_spec_PermitClashes_b1 m list) (k := fun x => (x.1, 0)) (fun x => 0 ≤ x.2 ∧ (x.1.length : Int) ≤ 16 * x.2 ∧ x.2 ≤ list.length ∧ ∀ e ∈ x.1, e.length = 2) (fun x => ((list.length : Int) - x.2).toNat) (fun _ r => r.1.length ≤ 256 ∧ ∀ e ∈ r.1, e.length = 2) ?_ _ _ ⟨by dsimp only; omega, by simp, by dsimp only; omega, by simp⟩ (by dsimp only; omega)
    rintro rec x ⟨h0, h2, h3, h4⟩ ih
    simp only [m_spec_PermitClashes_b1]
    by_cases h1 : x.2 < (list.length : Int)
    · simp only [h1, decide_true, Bool.cond_true]
      refine LOOP_post (b := m_spec_PermitClashes_b2 m list rec (fun x => (x.1, 0)) x) (k := fun x2 => rec (x2.1, x.2 + 1)) (fun p => x.2 < p.2 ∧ (p.1.length : Int) ≤ 16 * x.2 + (p.2 - x.2 - 1) ∧ p.2 ≤ list.length ∧ ∀ e ∈ p.1, e.length = 2) (fun p => ((list.length : Int) - p.2).toNat) (fun _ r => r.1.length ≤ 256 ∧ ∀ e ∈ r.1, e.length = 2) ?_ _ _ ⟨by dsimp only; omega, by dsimp only; omega, by dsimp only; omega, h4⟩ (by dsimp only; omega)
      rintro rec2 p ⟨g0, g2, g3, g4⟩ ih2
      simp only [m_spec_PermitClashes_b2]
      by_cases h5 : p.2 < (list.length : Int)
      · simp only [h5, decide_true, Bool.cond_true]
        cases m_spec_l26Clash m (at' list x.2) (at' list p.2) with
        | false =>
          simp only [Bool.cond_false]
          exact ih2 _ ⟨by dsimp only; omega, by dsimp only; omega, by dsimp only; omega, g4⟩ (by dsimp only; omega)
        | true =>
          simp only [Bool.cond_true]
          refine ih2 _ ⟨by dsimp only; omega, by simp only [List.length_append, List.length_cons, List.length_nil]; omega, by dsimp only; omega, fun e he => ?_⟩ (by dsimp only; omega)
          rcases List.mem_append.1 he with h | h
          · exact g4 e h
          · simp at h; subst h; rfl
      · simp only [h5, decide_false, Bool.cond_false]
        exact ih _ ⟨by dsimp only; omega, by dsimp only; omega, by dsimp only; omega, g4⟩ (by dsimp only; omega)
    · simp only [h1, decide_false, Bool.cond_false]
      exact ⟨by omega, h4⟩
theorem mark_int_at (a : List Int) (kk : Int) (h0 : 0 ≤ kk) (hB : kk + (a.length : Nat) ≤ 9223372036854770000) : (m_laws_markInt64S a kk).1 = kk + (a.length : Nat) ∧ m_laws_heldInt64S (m_laws_markInt64S a kk).2 kk = kk + (a.length : Nat) := by
  have e0 := LOOP_marki (b := m_laws_markInt64S_b1 a kk) (k := fun x => (x.2.1, x.1)) (fun rec xs kk i h0 h1 => by simp only [m_laws_markInt64S_b1, h1, decide_true, Bool.cond_true]) (fun rec xs kk i h1 => by simp only [m_laws_markInt64S_b1, h1, decide_false, Bool.cond_false]) (fun _ => rfl) kk (by omega) (((a.length : Int) - 0 : Int).toNat + 1) a 0 (by omega) (by omega) (by omega) (by omega) (fun j h1 h2 => by omega)
  rw [Int.add_zero] at e0
  have e : m_laws_markInt64S a kk = (kk + (a.length : Int), (irange 0 a.length).map (fun j => kk + j)) := e0
  rw [e]
  refine ⟨rfl, ?_⟩
  have hl : ((irange 0 a.length).map (fun j => kk + j)).length = a.length := by rw [List.length_map, irange_len]
  have := LOOP_heldi (b := m_laws_heldInt64S_b1 ((irange 0 a.length).map (fun j => kk + j)) kk) (k := fun x => x.1) (n := a.length) kk (by omega) (by omega) (fun rec kk i h0 h1 => by simp only [m_laws_heldInt64S_b1, hl, h1, decide_true, Bool.cond_true]) (fun rec kk i h1 => by simp only [m_laws_heldInt64S_b1, hl, h1, decide_false, Bool.cond_false]) (fun _ => rfl) (((a.length : Int) - 0 : Int).toNat + 1) 0 (by omega) (by omega) (by omega)
  simp only [m_laws_heldInt64S, hl]
  simpa using this
theorem held_mark_ss {a : List (List Int)} (h : a.length ≤ 1048576) (h2 : ∀ e ∈ a, e.length ≤ 1048576) : m_laws_heldInt64SS (m_laws_markInt64SS a 1).2 1 = (m_laws_markInt64SS a 1).1 ∧ ¬ (m_laws_markInt64SS a 1).1 < 0 := by
  have e : m_laws_markInt64SS a 1 = markL m_laws_markInt64S a 1 := by
    simp only [m_laws_markInt64SS]
    rw [LOOP_markN (mk := m_laws_markInt64S) (fun rec xs kk i h0 h1 => by simp only [m_laws_markInt64SS_b1, h1, decide_true, Bool.cond_true]) (fun rec xs kk i h1 => by simp only [m_laws_markInt64SS_b1, h1, decide_false, Bool.cond_false]) (fun _ => rfl) _ a 1 0 (by omega) (by omega) (by omega)]
    simp
  have e2 : ∀ L : List (List Int), m_laws_heldInt64SS L 1 = heldL m_laws_heldInt64S L 1 := fun L => by
    simp only [m_laws_heldInt64SS]
    rw [LOOP_heldN (held := m_laws_heldInt64S) (L := L) (fun rec kk i h0 h1 => by simp only [m_laws_heldInt64SS_b1, h1, decide_true, Bool.cond_true]) (fun rec kk i h1 => by simp only [m_laws_heldInt64SS_b1, h1, decide_false, Bool.cond_false]) (fun _ => rfl) _ 1 0 (by omega) (by omega) (by omega)]
    simp
  have hs := sum_le (sz := List.length) h2
  have hs2 : a.length * 1048576 ≤ 1048576 * 1048576 := Nat.mul_le_mul_right _ h
  have := held_markL (mk := m_laws_markInt64S) (held := m_laws_heldInt64S) (sz := List.length) (B := 9223372036854770000) (Q := fun _ => True) (fun e kk _ h0 hB => mark_int_at e kk h0 hB) a 1 (fun _ _ => trivial) (by omega) (by omega)
  rw [e, e2, this.1, this.2]
  exact ⟨rfl, by omega⟩

end Go.Proofs.Ytbflomopgofkgaa
