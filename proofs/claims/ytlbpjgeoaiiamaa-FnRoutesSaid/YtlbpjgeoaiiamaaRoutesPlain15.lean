/-
  PLAIN LAWS about the models: no program in sight. Conditions: as each theorem states them.
-/
import Derived.Test.YtlbpjgeoaiiamaaRoutesPlain14
set_option linter.unusedVariables false
set_option linter.unusedSimpArgs false
set_option linter.unusedSectionVars false
set_option linter.unnecessarySimpa false
namespace Go.Proofs.Ytlbpjgeoaiiamaa
open Go Go.RowKit Go.Proofs Go.Proofs.Ytlbpjgeoaiiamaa.E
/-! ## Trees and walks of the reference -/
def ListIn (m : gMine) (list : List Int) : Prop := ∀ y ∈ list, 0 ≤ y ∧ y < (m.Airways.length : Int)
theorem ListIn.at {m : gMine} {list : List Int} (h : ListIn m list) {i : Int} (hi : 0 ≤ i ∧ i < list.length) : 0 ≤ at' list i ∧ at' list i < (m.Airways.length : Int) := at_all h hi
theorem ListIn.air {m : gMine} {list : List Int} (hm : MineIn m) (h : ListIn m list) {i : Int} (hi : 0 ≤ i ∧ i < list.length) : 0 ≤ (at' m.Airways (at' list i)).From ∧ (at' m.Airways (at' list i)).From < m.Junctions ∧ 0 ≤ (at' m.Airways (at' list i)).To ∧ (at' m.Airways (at' list i)).To < m.Junctions := by
  have := hm.at (h.at hi); unfold AirIn at this; omega
theorem parts_len {m : gMine} {list : List Int} (hJ : 1 ≤ m.Junctions) : ((m_spec_l04Parts m list).length : Int) = m.Junctions := by
  simp only [m_spec_l04Parts]
  refine LOOP_post (fun (x : List Int × Int) => (x.1.length : Int) = x.2 ∧ 0 ≤ x.2 ∧ x.2 ≤ m.Junctions) (fun x => (m.Junctions - x.2).toNat) (fun _ (r : List Int) => (r.length : Int) = m.Junctions) (fun rec x hI ih => ?_) _ _ ⟨by simp, by simp, by simp only; omega⟩ (by simp)
  obtain ⟨xs, i⟩ := x
  obtain ⟨h1, h2, h3⟩ := hI
  simp only at h1 h2 h3
  simp only [m_spec_l04Parts_b1]
  by_cases hi : i < m.Junctions
  · simp only [hi, decide_true, Bool.cond_true]
    exact ih _ ⟨by simp; omega, by simp only; omega, by simp only; omega⟩ (by simp only; omega)
  · simp only [hi, decide_false, Bool.cond_false]
    refine LOOP_post (fun (x : List Int × Int) => (x.1.length : Int) = m.Junctions ∧ 0 ≤ x.2) (fun x => ((list.length : Int) - x.2).toNat) (fun _ (r : List Int) => (r.length : Int) = m.Junctions) (fun rec2 x hI ih2 => ?_) _ _ ⟨by simp only; omega, by simp⟩ (by simp)
    obtain ⟨ys, j⟩ := x
    obtain ⟨g1, g2⟩ := hI
    simp only at g1 g2
    simp only [m_spec_l04Parts_b2]
    by_cases hj : j < (list.length : Int)
    · simp only [hj, decide_true, Bool.cond_true]
      refine LOOP_post (fun (x : List Int × Int) => (x.1.length : Int) = m.Junctions ∧ 0 ≤ x.2) (fun x => ((x.1.length : Int) - x.2).toNat) (fun _ (r : List Int) => (r.length : Int) = m.Junctions) (fun rec3 x hI ih3 => ?_) _ _ ⟨g1, by simp⟩ (by simp)
      obtain ⟨zs, q⟩ := x
      obtain ⟨f1, f2⟩ := hI
      simp only at f1 f2
      simp only [m_spec_l04Parts_b3]
      by_cases hq : q < (zs.length : Int)
      · simp only [hq, decide_true, Bool.cond_true]
        cases (at' zs q) == (m_spec_l00Max (at' ys (at' m.Airways (at' list j)).From) (at' ys (at' m.Airways (at' list j)).To)) with
        | true => exact ih3 _ ⟨by simp only [put_len]; exact f1, by simp only; omega⟩ (by simp only [put_len]; omega)
        | false => exact ih3 _ ⟨f1, by simp only; omega⟩ (by simp only; omega)
      · simp only [hq, decide_false, Bool.cond_false]
        exact ih2 _ ⟨f1, by simp only; omega⟩ (by simp only; omega)
    · simp only [hj, decide_false, Bool.cond_false]; exact g1
theorem tree_in (m : gMine) : ListIn m (m_spec_l04Tree m) ∧ (m_spec_l04Tree m).length ≤ m.Airways.length := by
  simp only [m_spec_l04Tree]
  refine LOOP_post (fun (x : List Int × Int) => (0 ≤ x.2 ∧ x.2 ≤ m.Airways.length ∧ (x.1.length : Int) ≤ x.2) ∧ ListIn m x.1) (fun x => ((m.Airways.length : Int) - x.2).toNat) (fun _ (r : List Int) => ListIn m r ∧ r.length ≤ m.Airways.length) (fun rec x hI ih => ?_) _ _ ⟨by simp, fun y hy => by simp at hy⟩ (by simp)
  obtain ⟨xs, i⟩ := x
  obtain ⟨⟨h1, h2, h3⟩, h4⟩ := hI
  simp only at h1 h2 h3 h4
  simp only [m_spec_l04Tree_b1]
  by_cases hi : i < (m.Airways.length : Int)
  · simp only [hi, decide_true, Bool.cond_true]
    cases (at' (m_spec_l04Parts m xs) (at' m.Airways i).From) != (at' (m_spec_l04Parts m xs) (at' m.Airways i).To) with
    | true =>
      refine ih _ ⟨by simp only [List.length_append, List.length_cons, List.length_nil]; omega, fun y hy => ?_⟩ (by simp only; omega)
      rcases List.mem_append.1 hy with h | h
      · exact h4 y h
      · rw [List.mem_singleton.1 h]; omega
    | false => exact ih _ ⟨by simp only; omega, h4⟩ (by simp only; omega)
  · simp only [hi, decide_false, Bool.cond_false]
    exact ⟨h4, by omega⟩
/-- one step nearer -/
def StepTo (m : gMine) (list far : List Int) (i j : Int) : Prop :=
  ((at' m.Airways (at' list i)).From = j ∧ at' far (at' m.Airways (at' list i)).To = at' far j - 1) ∨ ((at' m.Airways (at' list i)).To = j ∧ at' far (at' m.Airways (at' list i)).From = at' far j - 1)
structure Far (m : gMine) (list : List Int) (to u : Int) (far : List Int) : Prop where
  len : (far.length : Int) = m.Junctions
  dst : 0 ≤ to ∧ to < m.Junctions
  zero : at' far to = 0
  low : ∀ j, 0 ≤ j → j < m.Junctions → -1 ≤ at' far j ∧ at' far j ≤ u
  base : ∀ j, 0 ≤ j → j < m.Junctions → at' far j = 0 → j = to
  back : ∀ j, 0 ≤ j → j < m.Junctions → 0 < at' far j → ∃ i, 0 ≤ i ∧ i < (list.length : Int) ∧ StepTo m list far i j
theorem Far.mono {m : gMine} {list far : List Int} {to u v : Int} (h : Far m list to u far) (huv : u ≤ v) : Far m list to v far :=
  ⟨h.len, h.dst, h.zero, fun j h0 h1 => by have := h.low j h0 h1; omega, h.base, h.back⟩
theorem Far.start {m : gMine} {list xs : List Int} {to : Int} (hl : (xs.length : Int) = m.Junctions) (hx : ∀ j, 0 ≤ j → j < m.Junctions → at' xs j = -1) (ht : 0 ≤ to ∧ to < m.Junctions) : Far m list to 0 (put' xs to 0) := by
  have hz : at' (put' xs to 0) to = 0 := put_at (by omega)
  have hn : ∀ j, 0 ≤ j → j < m.Junctions → j ≠ to → at' (put' xs to 0) j = -1 := fun j h0 h1 h2 => by
    rw [put_at_ne ht.1 h0 (fun e => h2 e.symm)]; exact hx j h0 h1
  refine ⟨by rw [put_len]; exact hl, ht, hz, fun j h0 h1 => ?_, fun j h0 h1 h2 => ?_, fun j h0 h1 h2 => ?_⟩
  · by_cases e : j = to
    · subst e; omega
    · rw [hn j h0 h1 e]; omega
  · by_cases e : j = to
    · exact e
    · rw [hn j h0 h1 e] at h2; omega
  · by_cases e : j = to
    · subst e; omega
    · rw [hn j h0 h1 e] at h2; omega
theorem Far.set {m : gMine} {list far : List Int} {to u s i a b : Int} (hm : MineIn m) (hL : ListIn m list) (h : Far m list to u far) (hi : 0 ≤ i ∧ i < (list.length : Int)) (ha : 0 ≤ a ∧ a < m.Junctions) (hb : 0 ≤ b ∧ b < m.Junctions) (hs : 0 ≤ s) (hsu : s + 1 ≤ u) (hfa : at' far a = s) (hfb : at' far b < 0)
    (he : ((at' m.Airways (at' list i)).From = a ∧ (at' m.Airways (at' list i)).To = b) ∨ ((at' m.Airways (at' list i)).To = a ∧ (at' m.Airways (at' list i)).From = b)) : Far m list to u (put' far b (s + 1)) := by
  have hl := h.len
  have hab : b ≠ a := fun e => by subst e; omega
  have hz := h.zero
  have hbt : b ≠ to := fun e => by subst e; omega
  have vb : at' (put' far b (s + 1)) b = s + 1 := put_at (by omega)
  have vo : ∀ j, 0 ≤ j → j ≠ b → at' (put' far b (s + 1)) j = at' far j := fun j h0 h1 => put_at_ne hb.1 h0 (fun e => h1 e.symm)
  have zt : at' (put' far b (s + 1)) to = 0 := by rw [vo to h.dst.1 (fun e => hbt e.symm)]; exact hz
  refine ⟨by rw [put_len]; exact hl, h.dst, zt, fun j h0 h1 => ?_, fun j h0 h1 h2 => ?_, fun j h0 h1 h2 => ?_⟩
  · by_cases e : j = b
    · subst e; omega
    · rw [vo j h0 e]; exact h.low j h0 h1
  · by_cases e : j = b
    · subst e; omega
    · rw [vo j h0 e] at h2; exact h.base j h0 h1 h2
  · by_cases e : j = b
    · subst e
      refine ⟨i, hi.1, hi.2, ?_⟩
      unfold StepTo
      rcases he with ⟨e1, e2⟩ | ⟨e1, e2⟩
      · right; rw [e1, e2, vb, vo a ha.1 (fun e => hab e.symm)]; omega
      · left; rw [e1, e2, vb, vo a ha.1 (fun e => hab e.symm)]; omega
    · rw [vo j h0 e] at h2
      obtain ⟨q, q0, q1, q2⟩ := h.back j h0 h1 h2
      refine ⟨q, q0, q1, ?_⟩
      have air := hL.air hm ⟨q0, q1⟩
      unfold StepTo at q2 ⊢
      rw [vo j h0 e]
      rcases q2 with ⟨e1, e2⟩ | ⟨e1, e2⟩
      · left; refine ⟨e1, ?_⟩
        rw [vo _ air.2.2.1 (fun e3 => by rw [e3] at e2; omega)]; exact e2
      · right; refine ⟨e1, ?_⟩
        rw [vo _ air.1 (fun e3 => by rw [e3] at e2; omega)]; exact e2
def NoStep (m : gMine) (list far : List Int) (j n : Int) : Prop := ∀ i, 0 ≤ i → i < n → ¬ StepTo m list far i j
theorem NoStep.nil {m : gMine} {list far : List Int} {j : Int} : NoStep m list far j 0 := fun i h0 h1 => by omega
theorem NoStep.skip {m : gMine} {list far : List Int} {j n : Int} (h : NoStep m list far j n) (hn : ¬ StepTo m list far n j) : NoStep m list far j (n + 1) := fun i h0 h1 => by
  by_cases e : i = n
  · subst e; exact hn
  · exact h i h0 (by omega)
theorem Far.stuck {m : gMine} {list far : List Int} {to u j n : Int} (h : Far m list to u far) (hj : 0 ≤ j ∧ j < m.Junctions) (hp : 0 ≤ at' far j) (hne : j ≠ to) (hn : (list.length : Int) ≤ n) (hs : NoStep m list far j n) : False := by
  have : at' far j ≠ 0 := fun e => hne (h.base j hj.1 hj.2 e)
  obtain ⟨i, i0, i1, i2⟩ := h.back j hj.1 hj.2 (by omega)
  exact hs i i0 (by omega) i2
theorem Far.pos {m : gMine} {list far : List Int} {to u j : Int} (h : Far m list to u far) (hj : 0 ≤ j ∧ j < m.Junctions) (hp : 0 ≤ at' far j) (hne : j ≠ to) : 1 ≤ at' far j := by
  have : at' far j ≠ 0 := fun e => hne (h.base j hj.1 hj.2 e)
  omega
theorem tree_add {m : gMine} {xs : List Int} {i : Int} (h : ListIn m xs) (hi : 0 ≤ i ∧ i < (m.Airways.length : Int)) : ListIn m (xs ++ ([i] : List Int)) := fun y hy => by
  rcases List.mem_append.1 hy with h1 | h1
  · exact h y h1
  · rw [List.mem_singleton.1 h1]; exact hi
theorem neg_app {xs : List Int} {n : Int} (h : ∀ j, 0 ≤ j → j < n → at' xs j = -1) (hl : (xs.length : Int) = n) : ∀ j, 0 ≤ j → j < n + 1 → at' (xs ++ ([(-1)] : List Int)) j = -1 := fun j j0 j1 => by
  by_cases e : j = n
  · subst e; rw [← hl]; exact at_app_last
  · have := h j j0 (by omega)
    have hj : j.toNat < xs.length := by omega
    have e2 := at_app (x := (-1 : Int)) hj
    rw [show ((j.toNat : Nat) : Int) = j by omega] at e2
    rw [e2]; exact this

end Go.Proofs.Ytlbpjgeoaiiamaa
