/-
  PLAIN LAWS about the models: no program in sight. Conditions: as each theorem states them.
-/
import Derived.Test.YtibbfdojcdkopaaGreatPlacesPlain4
set_option linter.unusedVariables false
set_option linter.unusedSimpArgs false
set_option linter.unusedSectionVars false
set_option linter.unnecessarySimpa false
namespace Go.Proofs.YtibbfdojcdkopaaGreat
open Go Go.RowKit Go.Proofs Go.Proofs.YtibbfdojcdkopaaGreat.E

/-! ## The end of a list that grows -/
theorem at_app {α : Type} [Inhabited α] {A : List α} {x : α} {j : Nat} (h : j < A.length) : at' (A ++ [x]) (j : Int) = at' A (j : Int) := by
  simp only [at', List.getD_eq_getElem?_getD, Int.toNat_natCast]; rw [List.getElem?_append_left h]
theorem at_app_last {α : Type} [Inhabited α] {A : List α} {x : α} : at' (A ++ [x]) (A.length : Int) = x := by
  simp [at', List.getD_eq_getElem?_getD]

/-! ## Trees and walks of the reference -/
def ListIn (m : AB) (list : List Int) : Prop := ∀ y ∈ list, 0 ≤ y ∧ y < (m.Airways.length : Int)
theorem ListIn.at {m : AB} {list : List Int} (h : ListIn m list) {i : Int} (hi : 0 ≤ i ∧ i < list.length) : 0 ≤ at' list i ∧ at' list i < (m.Airways.length : Int) := at_all h hi
theorem ListIn.air {m : AB} {list : List Int} (hm : MineIn m) (h : ListIn m list) {i : Int} (hi : 0 ≤ i ∧ i < list.length) : 0 ≤ (at' m.Airways (at' list i)).From ∧ (at' m.Airways (at' list i)).From < m.Junctions ∧ 0 ≤ (at' m.Airways (at' list i)).To ∧ (at' m.Airways (at' list i)).To < m.Junctions := by
  have := hm.at (h.at hi); unfold AirIn at this; omega
theorem parts_len {m : AB} {list : List Int} (hJ : 1 ≤ m.Junctions) : ((B2 m list).length : Int) = m.Junctions := by
  simp only [B2]
  refine LOOP_post (fun (x : List Int × Int) => (x.1.length : Int) = x.2 ∧ 0 ≤ x.2 ∧ x.2 ≤ m.Junctions) (fun x => (m.Junctions - x.2).toNat) (fun _ (r : List Int) => (r.length : Int) = m.Junctions) (fun rec x hI ih => ?_) _ _ ⟨by simp, by simp, by simp only; omega⟩ (by simp)
  obtain ⟨xs, i⟩ := x
  obtain ⟨h1, h2, h3⟩ := hI
  simp only at h1 h2 h3
  simp only [DA]
  by_cases hi : i < m.Junctions
  · simp only [hi, decide_true, Bool.cond_true]
    exact ih _ ⟨by simp; omega, by simp only; omega, by simp only; omega⟩ (by simp only; omega)
  · simp only [hi, decide_false, Bool.cond_false]
    refine LOOP_post (fun (x : List Int × Int) => (x.1.length : Int) = m.Junctions ∧ 0 ≤ x.2) (fun x => ((list.length : Int) - x.2).toNat) (fun _ (r : List Int) => (r.length : Int) = m.Junctions) (fun rec2 x hI ih2 => ?_) _ _ ⟨by simp only; omega, by simp⟩ (by simp)
    obtain ⟨ys, j⟩ := x
    obtain ⟨g1, g2⟩ := hI
    simp only at g1 g2
    simp only [Dz]
    by_cases hj : j < (list.length : Int)
    · simp only [hj, decide_true, Bool.cond_true]
      refine LOOP_post (fun (x : List Int × Int) => (x.1.length : Int) = m.Junctions ∧ 0 ≤ x.2) (fun x => ((x.1.length : Int) - x.2).toNat) (fun _ (r : List Int) => (r.length : Int) = m.Junctions) (fun rec3 x hI ih3 => ?_) _ _ ⟨g1, by simp⟩ (by simp)
      obtain ⟨zs, q⟩ := x
      obtain ⟨f1, f2⟩ := hI
      simp only at f1 f2
      simp only [Dy]
      by_cases hq : q < (zs.length : Int)
      · simp only [hq, decide_true, Bool.cond_true]
        cases (at' zs q) == (AC (at' ys (at' m.Airways (at' list j)).From) (at' ys (at' m.Airways (at' list j)).To)) with
        | true => exact ih3 _ ⟨by simp only [put_len]; exact f1, by simp only; omega⟩ (by simp only [put_len]; omega)
        | false => exact ih3 _ ⟨f1, by simp only; omega⟩ (by simp only; omega)
      · simp only [hq, decide_false, Bool.cond_false]
        exact ih2 _ ⟨f1, by simp only; omega⟩ (by simp only; omega)
    · simp only [hj, decide_false, Bool.cond_false]; exact g1
theorem tree_in (m : AB) : ListIn m (Bs m) ∧ (Bs m).length ≤ m.Airways.length := by
  simp only [Bs]
  refine LOOP_post (fun (x : List Int × Int) => (0 ≤ x.2 ∧ x.2 ≤ m.Airways.length ∧ (x.1.length : Int) ≤ x.2) ∧ ListIn m x.1) (fun x => ((m.Airways.length : Int) - x.2).toNat) (fun _ (r : List Int) => ListIn m r ∧ r.length ≤ m.Airways.length) (fun rec x hI ih => ?_) _ _ ⟨by simp, fun y hy => by simp at hy⟩ (by simp)
  obtain ⟨xs, i⟩ := x
  obtain ⟨⟨h1, h2, h3⟩, h4⟩ := hI
  simp only at h1 h2 h3 h4
  simp only [m_spec_l04Tree_b1]
  by_cases hi : i < (m.Airways.length : Int)
  · simp only [hi, decide_true, Bool.cond_true]
    cases (at' (B2 m xs) (at' m.Airways i).From) != (at' (B2 m xs) (at' m.Airways i).To) with
    | true =>
      refine ih _ ⟨by simp only [List.length_append, List.length_cons, List.length_nil]; omega, fun y hy => ?_⟩ (by simp only; omega)
      rcases List.mem_append.1 hy with h | h
      · exact h4 y h
      · rw [List.mem_singleton.1 h]; omega
    | false => exact ih _ ⟨by simp only; omega, h4⟩ (by simp only; omega)
  · simp only [hi, decide_false, Bool.cond_false]
    exact ⟨h4, by omega⟩
/-- one step nearer -/
def StepTo (m : AB) (list far : List Int) (i j : Int) : Prop :=
  ((at' m.Airways (at' list i)).From = j ∧ at' far (at' m.Airways (at' list i)).To = at' far j - 1) ∨ ((at' m.Airways (at' list i)).To = j ∧ at' far (at' m.Airways (at' list i)).From = at' far j - 1)
structure Far (m : AB) (list : List Int) (to u : Int) (far : List Int) : Prop where
  len : (far.length : Int) = m.Junctions
  dst : 0 ≤ to ∧ to < m.Junctions
  zero : at' far to = 0
  low : ∀ j, 0 ≤ j → j < m.Junctions → -1 ≤ at' far j ∧ at' far j ≤ u
  base : ∀ j, 0 ≤ j → j < m.Junctions → at' far j = 0 → j = to
  back : ∀ j, 0 ≤ j → j < m.Junctions → 0 < at' far j → ∃ i, 0 ≤ i ∧ i < (list.length : Int) ∧ StepTo m list far i j
theorem Far.mono {m : AB} {list far : List Int} {to u v : Int} (h : Far m list to u far) (huv : u ≤ v) : Far m list to v far :=
  ⟨h.len, h.dst, h.zero, fun j h0 h1 => by have := h.low j h0 h1; omega, h.base, h.back⟩
theorem Far.start {m : AB} {list xs : List Int} {to : Int} (hl : (xs.length : Int) = m.Junctions) (hx : ∀ j, 0 ≤ j → j < m.Junctions → at' xs j = -1) (ht : 0 ≤ to ∧ to < m.Junctions) : Far m list to 0 (put' xs to 0) := by
  have hz : at' (put' xs to 0) to = 0 := put_at (by omega)
  have hn : ∀ j, 0 ≤ j → j < m.Junctions → j ≠ to → at' (put' xs to 0) j = -1 := fun j h0 h1 h2 => by
    rw [put_at_ne ht.1 h0 (fun e => h2 e.symm)]; exact hx j h0 h1
  refine ⟨by rw [put_len]; exact hl, ht, hz, fun j h0 h1 => ?_, fun j h0 h1 h2 => ?_, fun j h0 h1 h2 => ?_⟩
  · by_cases e : j = to
    · subst e; omega
    · rw [hn j h0 h1 e]; omega
  · by_cases e : j = to
    · exact e
    · rw [hn j h0 h1 e] at h2; omega
  · by_cases e : j = to
    · subst e; omega
    · rw [hn j h0 h1 e] at h2; omega
theorem Far.set {m : AB} {list far : List Int} {to u s i a b : Int} (hm : MineIn m) (hL : ListIn m list) (h : Far m list to u far) (hi : 0 ≤ i ∧ i < (list.length : Int)) (ha : 0 ≤ a ∧ a < m.Junctions) (hb : 0 ≤ b ∧ b < m.Junctions) (hs : 0 ≤ s) (hsu : s + 1 ≤ u) (hfa : at' far a = s) (hfb : at' far b < 0)
    (he : ((at' m.Airways (at' list i)).From = a ∧ (at' m.Airways (at' list i)).To = b) ∨ ((at' m.Airways (at' list i)).To = a ∧ (at' m.Airways (at' list i)).From = b)) : Far m list to u (put' far b (s + 1)) := by
  have hl := h.len
  have hab : b ≠ a := fun e => by subst e; omega
  have hz := h.zero
  have hbt : b ≠ to := fun e => by subst e; omega
  have vb : at' (put' far b (s + 1)) b = s + 1 := put_at (by omega)
  have vo : ∀ j, 0 ≤ j → j ≠ b → at' (put' far b (s + 1)) j = at' far j := fun j h0 h1 => put_at_ne hb.1 h0 (fun e => h1 e.symm)
  have zt : at' (put' far b (s + 1)) to = 0 := by rw [vo to h.dst.1 (fun e => hbt e.symm)]; exact hz
  refine ⟨by rw [put_len]; exact hl, h.dst, zt, fun j h0 h1 => ?_, fun j h0 h1 h2 => ?_, fun j h0 h1 h2 => ?_⟩
  · by_cases e : j = b
    · subst e; omega
    · rw [vo j h0 e]; exact h.low j h0 h1
  · by_cases e : j = b
    · subst e; omega
    · rw [vo j h0 e] at h2; exact h.base j h0 h1 h2
  · by_cases e : j = b
    · subst e
      refine ⟨i, hi.1, hi.2, ?_⟩
      unfold StepTo
      rcases he with ⟨e1, e2⟩ | ⟨e1, e2⟩
      · right; rw [e1, e2, vb, vo a ha.1 (fun e => hab e.symm)]; omega
      · left; rw [e1, e2, vb, vo a ha.1 (fun e => hab e.symm)]; omega
    · rw [vo j h0 e] at h2
      obtain ⟨q, q0, q1, q2⟩ := h.back j h0 h1 h2
      refine ⟨q, q0, q1, ?_⟩
      have air := hL.air hm ⟨q0, q1⟩
      unfold StepTo at q2 ⊢
      rw [vo j h0 e]
      rcases q2 with ⟨e1, e2⟩ | ⟨e1, e2⟩
      · left; refine ⟨e1, ?_⟩
        rw [vo _ air.2.2.1 (fun e3 => by rw [e3] at e2; omega)]; exact e2
      · right; refine ⟨e1, ?_⟩
        rw [vo _ air.1 (fun e3 => by rw [e3] at e2; omega)]; exact e2
def NoStep (m : AB) (list far : List Int) (j n : Int) : Prop := ∀ i, 0 ≤ i → i < n → ¬ StepTo m list far i j
theorem NoStep.nil {m : AB} {list far : List Int} {j : Int} : NoStep m list far j 0 := fun i h0 h1 => by omega
theorem NoStep.skip {m : AB} {list far : List Int} {j n : Int} (h : NoStep m list far j n) (hn : ¬ StepTo m list far n j) : NoStep m list far j (n + 1) := fun i h0 h1 => by
  by_cases e : i = n
  · subst e; exact hn
  · exact h i h0 (by omega)
theorem Far.stuck {m : AB} {list far : List Int} {to u j n : Int} (h : Far m list to u far) (hj : 0 ≤ j ∧ j < m.Junctions) (hp : 0 ≤ at' far j) (hne : j ≠ to) (hn : (list.length : Int) ≤ n) (hs : NoStep m list far j n) : False := by
  have : at' far j ≠ 0 := fun e => hne (h.base j hj.1 hj.2 e)
  obtain ⟨i, i0, i1, i2⟩ := h.back j hj.1 hj.2 (by omega)
  exact hs i i0 (by omega) i2
theorem Far.pos {m : AB} {list far : List Int} {to u j : Int} (h : Far m list to u far) (hj : 0 ≤ j ∧ j < m.Junctions) (hp : 0 ≤ at' far j) (hne : j ≠ to) : 1 ≤ at' far j := by
  have : at' far j ≠ 0 := fun e => hne (h.base j hj.1 hj.2 e)
  omega
theorem tree_add {m : AB} {xs : List Int} {i : Int} (h : ListIn m xs) (hi : 0 ≤ i ∧ i < (m.Airways.length : Int)) : ListIn m (xs ++ ([i] : List Int)) := fun y hy => by
  rcases List.mem_append.1 hy with h1 | h1
  · exact h y h1
  · rw [List.mem_singleton.1 h1]; exact hi
theorem neg_app {xs : List Int} {n : Int} (h : ∀ j, 0 ≤ j → j < n → at' xs j = -1) (hl : (xs.length : Int) = n) : ∀ j, 0 ≤ j → j < n + 1 → at' (xs ++ K_6) j = -1 := fun j j0 j1 => by
  by_cases e : j = n
  · subst e; rw [← hl]; exact at_app_last
  · have := h j j0 (by omega)
    have hj : j.toNat < xs.length := by omega
    have e2 := at_app (x := (-1 : Int)) hj
    rw [show ((j.toNat : Nat) : Int) = j by omega] at e2
    rw [e2]; exact this

/-! ## What a walk is made of -/
def edge (y : Int) : Int := (if y < 0 then -y else y) - 1
structure PathI (m : AB) (list far out : List Int) (d : Int) : Prop where
  ok : ∀ y ∈ out, y ≠ 0 ∧ edge y ∈ list ∧ (d < at' far (at' m.Airways (edge y)).From ∨ d < at' far (at' m.Airways (edge y)).To)
  nd : out.Pairwise (fun a b => edge a ≠ edge b)
theorem PathI.add {m : AB} {list far out : List Int} {d e y : Int} (h : PathI m list far out d) (he : e ∈ list) (hy : y ≠ 0) (hye : edge y = e) (h1 : (at' far (at' m.Airways e).From = d ∧ at' far (at' m.Airways e).To = d - 1) ∨ (at' far (at' m.Airways e).From = d - 1 ∧ at' far (at' m.Airways e).To = d)) : PathI m list far (out ++ [y]) (d - 1) := by
  refine ⟨fun z hz => ?_, ?_⟩
  · rcases List.mem_append.1 hz with h2 | h2
    · have := h.ok z h2
      exact ⟨this.1, this.2.1, by omega⟩
    · rw [List.mem_singleton.1 h2, hye]; exact ⟨hy, he, by omega⟩
  · rw [List.pairwise_append]
    refine ⟨h.nd, List.pairwise_singleton _ _, fun a ha b hb e2 => ?_⟩
    rw [List.mem_singleton.1 hb, hye] at e2
    have := (h.ok a ha).2.2
    rw [e2] at this; omega
structure WalkR (list : List Int) (r : List Int × Bool) : Prop where
  len : r.1.length ≤ 16
  ok : ∀ y ∈ r.1, y ≠ 0 ∧ edge y ∈ list
  nd : r.1.Pairwise (fun a b => edge a ≠ edge b)
theorem walk_is {m : AB} {list : List Int} {from_ to : Int} (hm : MineIn m) (hL : ListIn m list) (hf : 0 ≤ from_ ∧ from_ < m.Junctions) (ht : 0 ≤ to ∧ to < m.Junctions) : WalkR list (BT m list from_ to) := by
  have hJ := hm.1
  have hn := hm.2.1
  simp only [BT]
  refine LOOP_post (fun (x : List Int × Int) => ((x.1.length : Int) = x.2 ∧ 0 ≤ x.2 ∧ x.2 ≤ m.Junctions) ∧ ∀ j, 0 ≤ j → j < x.2 → at' x.1 j = -1) (fun x => (m.Junctions - x.2).toNat) (fun _ (r : List Int × Bool) => WalkR list r) (fun rec x hI ih => ?_) _ _ ⟨by simp; omega, fun j h0 h1 => by simp only at h1; omega⟩ (by simp)
  obtain ⟨xs, i⟩ := x
  obtain ⟨⟨h1, h2, h3⟩, h4⟩ := hI
  simp only at h1 h2 h3 h4
  simp only [m_spec_l04Walk_b1]
  by_cases hi : i < m.Junctions
  · simp only [hi, decide_true, Bool.cond_true]
    refine ih _ ⟨by simp only [List.length_append, List.length_cons, List.length_nil]; omega, fun j j0 j1 => ?_⟩ (by simp only; omega)
    simp only at j1 ⊢
    by_cases e : j = i
    · subst e; rw [show j = ((xs.length : Nat) : Int) by omega]; exact at_app_last
    · have := h4 j j0 (by omega)
      have hj : j.toNat < xs.length := by omega
      have e2 := at_app (x := (-1 : Int)) hj
      rw [show ((j.toNat : Nat) : Int) = j by omega] at e2
      rw [e2]; exact this
  · simp only [hi, decide_false, Bool.cond_false]
    have hF0 := Far.start (list := list) (by omega) (fun j j0 j1 => h4 j j0 (by omega)) ht
    refine LOOP_post (fun (x : List Int × Int) => (0 ≤ x.2 ∧ x.2 ≤ m.Junctions) ∧ Far m list to x.2 x.1) (fun x => (m.Junctions - x.2).toNat) (fun _ (r : List Int × Bool) => WalkR list r) (fun rec2 x hI ih2 => ?_) _ _ ⟨by simp only; omega, hF0⟩ (by simp)
    obtain ⟨far, s⟩ := x
    obtain ⟨⟨s0, s1⟩, hF⟩ := hI
    simp only at s0 s1 hF
    simp only [m_spec_l04Walk_b2]
    by_cases hs : s < m.Junctions
    · simp only [hs, decide_true, Bool.cond_true]
      refine LOOP_post (fun (x : List Int × Int) => (0 ≤ x.2 ∧ x.2 ≤ list.length) ∧ Far m list to (s + 1) x.1) (fun x => ((list.length : Int) - x.2).toNat) (fun _ (r : List Int × Bool) => WalkR list r) (fun rec3 x hI ih3 => ?_) _ _ ⟨by simp, hF.mono (by omega)⟩ (by simp)
      obtain ⟨fr, q⟩ := x
      obtain ⟨⟨q0, q1⟩, hG⟩ := hI
      simp only at q0 q1 hG
      simp only [m_spec_l04Walk_b3, JN]
      by_cases hq : q < (list.length : Int)
      · simp only [hq, decide_true, Bool.cond_true]
        have air := hL.air hm ⟨q0, hq⟩
        have two : ∀ v : List Int, Far m list to (s + 1) v → WalkR list (bif ((at' v (at' m.Airways (at' list q)).To) == s) && (decide ((at' v (at' m.Airways (at' list q)).From) < 0)) then rec3 (put' v (at' m.Airways (at' list q)).From (s + 1), q + 1) else rec3 (v, q + 1)) := fun v hv => by
          by_cases hc : at' v (at' m.Airways (at' list q)).To = s ∧ at' v (at' m.Airways (at' list q)).From < 0
          · have : (((at' v (at' m.Airways (at' list q)).To) == s) && (decide ((at' v (at' m.Airways (at' list q)).From) < 0))) = true := by simpa using hc
            rw [this]
            exact ih3 _ ⟨by simp only; omega, hv.set hm hL ⟨q0, hq⟩ ⟨air.2.2.1, air.2.2.2⟩ ⟨air.1, air.2.1⟩ s0 (by omega) hc.1 hc.2 (.inr ⟨rfl, rfl⟩)⟩ (by simp only; omega)
          · have : (((at' v (at' m.Airways (at' list q)).To) == s) && (decide ((at' v (at' m.Airways (at' list q)).From) < 0))) = false := by rw [Bool.eq_false_iff]; simpa using hc
            rw [this]
            exact ih3 _ ⟨by simp only; omega, hv⟩ (by simp only; omega)
        by_cases hc : at' fr (at' m.Airways (at' list q)).From = s ∧ at' fr (at' m.Airways (at' list q)).To < 0
        · have : (((at' fr (at' m.Airways (at' list q)).From) == s) && (decide ((at' fr (at' m.Airways (at' list q)).To) < 0))) = true := by simpa using hc
          rw [this]
          exact two _ (hG.set hm hL ⟨q0, hq⟩ ⟨air.1, air.2.1⟩ ⟨air.2.2.1, air.2.2.2⟩ s0 (by omega) hc.1 hc.2 (.inl ⟨rfl, rfl⟩))
        · have : (((at' fr (at' m.Airways (at' list q)).From) == s) && (decide ((at' fr (at' m.Airways (at' list q)).To) < 0))) = false := by rw [Bool.eq_false_iff]; simpa using hc
          rw [this]
          exact two _ hG
      · simp only [hq, decide_false, Bool.cond_false]
        exact ih2 _ ⟨by simp only; omega, hG⟩ (by simp only; omega)
    · simp only [hs, decide_false, Bool.cond_false]
      by_cases hneg : at' far from_ < 0
      · simp only [hneg, decide_true, Bool.cond_true]
        exact ⟨by simp, fun y hy => by simp at hy, List.Pairwise.nil⟩
      · simp only [hneg, decide_false, Bool.cond_false]
        have hup := hF.low from_ hf.1 hf.2
        refine LOOP_post (fun (x : List Int × Int) => ((0 ≤ x.2 ∧ x.2 < m.Junctions) ∧ 0 ≤ at' far x.2 ∧ (x.1.length : Int) + at' far x.2 ≤ 16) ∧ PathI m list far x.1 (at' far x.2)) (fun x => (at' far x.2).toNat) (fun _ (r : List Int × Bool) => WalkR list r) (fun rec4 x hI ih4 => ?_) _ _ ⟨⟨hf, by simp only; omega, by simp only [List.length_nil]; omega⟩, ⟨fun y hy => by simp at hy, List.Pairwise.nil⟩⟩ (by simp only; omega)
        obtain ⟨out, at_⟩ := x
        obtain ⟨⟨a0, a1, a2⟩, hP⟩ := hI
        simp only at a0 a1 a2 hP
        simp only [m_spec_l04Walk_b4]
        by_cases hat : at_ = to
        · subst hat
          simp only [bne_self_eq_false, Bool.cond_false]
          exact ⟨by simp only; omega, fun y hy => ⟨(hP.ok y hy).1, (hP.ok y hy).2.1⟩, hP.nd⟩
        · have hb : (at_ != to) = true := by simpa using hat
          rw [hb]
          simp only [Bool.cond_true]
          have hpos := hF.pos a0 a1 hat
          have hlow := hF.low at_ a0.1 a0.2
          have hwr : IntKind.wrap .i64 (at' far at_ - 1) = at' far at_ - 1 := wr64 (by omega)
          refine LOOP_post (fun (x : Int × List Int × Int) => (0 ≤ x.1 ∧ x.1 ≤ list.length) ∧ (x.2.1 = out ∧ x.2.2 = at_) ∧ NoStep m list far at_ x.1) (fun x => ((list.length : Int) - x.1).toNat) (fun _ (r : List Int × Bool) => WalkR list r) (fun rec5 x hI ih5 => ?_) _ _ ⟨by simp, ⟨rfl, rfl⟩, NoStep.nil⟩ (by simp)
          obtain ⟨q, o2, b2⟩ := x
          obtain ⟨⟨q0, q1⟩, ⟨e1, e2⟩, hN⟩ := hI
          simp only at q0 q1 e1 e2 hN
          subst e1; subst e2
          simp only [m_spec_l04Walk_b5, hwr]
          by_cases hq : q < (list.length : Int)
          · simp only [hq, decide_true, Bool.cond_true]
            have air := hL.air hm ⟨q0, hq⟩
            have hr := hL.at ⟨q0, hq⟩
            have hmem : at' list q ∈ list := at_mem ⟨q0, hq⟩
            by_cases c1 : (at' m.Airways (at' list q)).From = b2 ∧ at' far (at' m.Airways (at' list q)).To = at' far b2 - 1
            · have : (((at' m.Airways (at' list q)).From == b2) && ((at' far (at' m.Airways (at' list q)).To) == at' far b2 - 1)) = true := by simpa using c1
              rw [this]
              simp only [Bool.cond_true]
              have hw : IntKind.wrap .i64 (at' list q + 1) = at' list q + 1 := wr64 (by omega)
              rw [hw]
              have hP2 := hP.add hmem (y := at' list q + 1) (by omega) (by simp only [edge]; rw [if_neg (by omega)]; omega) (.inl ⟨by rw [c1.1], c1.2⟩)
              refine ih4 _ ⟨⟨⟨air.2.2.1, air.2.2.2⟩, by simp only; rw [c1.2]; omega, by simp only [List.length_append, List.length_cons, List.length_nil]; rw [c1.2]; omega⟩, ?_⟩ (by simp only; rw [c1.2]; omega)
              simp only; rw [c1.2]; exact hP2
            · have : (((at' m.Airways (at' list q)).From == b2) && ((at' far (at' m.Airways (at' list q)).To) == at' far b2 - 1)) = false := by rw [Bool.eq_false_iff]; simpa using c1
              rw [this]
              simp only [Bool.cond_false]
              by_cases c2 : (at' m.Airways (at' list q)).To = b2 ∧ at' far (at' m.Airways (at' list q)).From = at' far b2 - 1
              · have : (((at' m.Airways (at' list q)).To == b2) && ((at' far (at' m.Airways (at' list q)).From) == at' far b2 - 1)) = true := by simpa using c2
                rw [this]
                simp only [Bool.cond_true]
                have hw : IntKind.wrap .i64 ((IntKind.wrap .i64 (0 - at' list q)) - 1) = 0 - at' list q - 1 := by rw [wr64 (n := 0 - at' list q) (by omega), wr64 (by omega)]
                rw [hw]
                have hP2 := hP.add hmem (y := 0 - at' list q - 1) (by omega) (by simp only [edge]; rw [if_pos (by omega)]; omega) (.inr ⟨c2.2, by rw [c2.1]⟩)
                refine ih4 _ ⟨⟨⟨air.1, air.2.1⟩, by simp only; rw [c2.2]; omega, by simp only [List.length_append, List.length_cons, List.length_nil]; rw [c2.2]; omega⟩, ?_⟩ (by simp only; rw [c2.2]; omega)
                simp only; rw [c2.2]; exact hP2
              · have : (((at' m.Airways (at' list q)).To == b2) && ((at' far (at' m.Airways (at' list q)).From) == at' far b2 - 1)) = false := by rw [Bool.eq_false_iff]; simpa using c2
                rw [this]
                simp only [Bool.cond_false]
                refine ih5 _ ⟨by simp only; omega, ⟨rfl, rfl⟩, hN.skip (fun hS => ?_)⟩ (by simp only; omega)
                unfold StepTo at hS
                rcases hS with h | h
                · exact c1 h
                · exact c2 h
          · exact (hF.stuck a0 a1 hat (n := q) (by omega) hN).elim

/-! ## Meshes, and flows along them -/
theorem has_is {list : List Int} {n : Int} (h : CW list n = false) : n ∉ list := by
  have : (CW list n = false → n ∉ list) := by
    simp only [CW]
    refine LOOP_post (fun (x : Int) => (0 ≤ x ∧ x ≤ list.length) ∧ ∀ q, 0 ≤ q → q < x → at' list q ≠ n) (fun x => ((list.length : Int) - x).toNat) (fun _ (r : Bool) => r = false → n ∉ list) (fun rec x hI ih => ?_) _ _ ⟨⟨by omega, by omega⟩, fun q h1 h2 => by omega⟩ (by omega)
    obtain ⟨⟨h0, h1⟩, h2⟩ := hI
    simp only [m_spec_l00Has_b1]
    by_cases hi : x < (list.length : Int)
    · simp only [hi, decide_true, Bool.cond_true]
      by_cases e : at' list x = n
      · have : (at' list x == n) = true := by simpa using e
        rw [this]; intro hf; simp at hf
      · have : (at' list x == n) = false := by simpa using e
        rw [this]
        refine ih _ ⟨⟨by omega, by omega⟩, fun q g1 g2 => ?_⟩ (by omega)
        by_cases e2 : q = x
        · subst e2; exact e
        · exact h2 q g1 (by omega)
    · simp only [hi, decide_false, Bool.cond_false]
      intro _ hm
      obtain ⟨j, hj, e⟩ := List.mem_iff_getElem.1 hm
      exact h2 j (by omega) (by omega) (by rw [at_lt hj]; exact e)
  exact this h
structure MeshOk (n : Int) (w : List Int) : Prop where
  ok : ∀ y ∈ w, y ≠ 0 ∧ 0 ≤ edge y ∧ edge y < n
  nd : w.Pairwise (fun a b => edge a ≠ edge b)
  len : w.length ≤ 20
theorem meshes_is {m : AB} (hm : MineIn m) : (Be m).length ≤ m.Airways.length ∧ ∀ w ∈ Be m, MeshOk m.Airways.length w := by
  simp only [Be]
  refine LOOP_post (fun (x : Int × List (List Int)) => (0 ≤ x.1 ∧ x.1 ≤ m.Airways.length ∧ (x.2.length : Int) ≤ x.1) ∧ ∀ w ∈ x.2, MeshOk m.Airways.length w) (fun x => ((m.Airways.length : Int) - x.1).toNat) (fun _ (r : List (List Int)) => r.length ≤ m.Airways.length ∧ ∀ w ∈ r, MeshOk m.Airways.length w) (fun rec x hI ih => ?_) _ _ ⟨by simp, fun w hw => by simp at hw⟩ (by simp)
  obtain ⟨k, out⟩ := x
  obtain ⟨⟨h0, h1, h2⟩, h3⟩ := hI
  simp only at h0 h1 h2 h3
  simp only [Ds]
  by_cases hk : k < (m.Airways.length : Int)
  · simp only [hk, decide_true, Bool.cond_true]
    cases hh : CW (Bs m) k with
    | true => exact ih _ ⟨by simp only; omega, h3⟩ (by simp only; omega)
    | false =>
      have hn := has_is hh
      have ha := hm.at ⟨h0, hk⟩
      unfold AirIn at ha
      have hT := (tree_in m).1
      have hW := walk_is hm hT (from_ := (at' m.Airways k).To) (to := (at' m.Airways k).From) (by omega) (by omega)
      refine ih _ ⟨by simp only [List.length_append, List.length_cons, List.length_nil]; omega, fun w hw => ?_⟩ (by simp only; omega)
      rcases List.mem_append.1 hw with h | h
      · exact h3 w h
      · rw [List.mem_singleton.1 h]
        have ek : edge (k + 1) = k := by simp only [edge]; rw [if_neg (by omega)]; omega
        refine ⟨fun y hy => ?_, ?_, by have := hW.len; simp only [List.length_append, List.length_cons, List.length_nil]; omega⟩
        · rcases List.mem_append.1 hy with g | g
          · rw [List.mem_singleton.1 g, ek]; omega
          · have := hW.ok y g
            exact ⟨this.1, hT _ this.2⟩
        · rw [List.pairwise_append]
          refine ⟨List.pairwise_singleton _ _, hW.nd, fun a ha b hb e => ?_⟩
          rw [List.mem_singleton.1 ha, ek] at e
          exact hn (e ▸ (hW.ok b hb).2)
  · simp only [hk, decide_false, Bool.cond_false]
    exact ⟨by omega, h3⟩
theorem add_len {flows walk : List Int} {amount : Int} : (Dh flows walk amount).length = flows.length := by
  simp only [Dh]
  refine LOOP_post (fun (x : List Int × Int) => x.1.length = flows.length) (fun x => ((walk.length : Int) - x.2).toNat) (fun _ (r : List Int) => r.length = flows.length) (fun rec x hI ih => ?_) _ _ rfl (by simp)
  simp only [m_spec_l07Add_b1]
  by_cases hi : x.2 < (walk.length : Int)
  · simp only [hi, decide_true, Bool.cond_true]
    cases decide (0 < at' walk x.2) with
    | true => exact ih _ (by simp only [put_len]; exact hI) (by simp only; omega)
    | false => exact ih _ (by simp only [put_len]; exact hI) (by simp only; omega)
  · simp only [hi, decide_false, Bool.cond_false]; exact hI
theorem mesh_at {m : AB} (hm : MineIn m) {i : Int} (hi : 0 ≤ i ∧ i < (Be m).length) : MeshOk m.Airways.length (at' (Be m) i) := at_all (meshes_is hm).2 hi

/-! ## Crews: both models judge alike -/
def CrewIn (m : AB) (c : Bu) : Prop := (0 ≤ c.Junction ∧ c.Junction < m.Junctions) ∧ 10 ≤ c.Speed ∧ c.Speed ≤ 300
theorem crew_eq (c : Bu) : Cw c = BV c := by
  simp only [Cw, BV, name_eq, BP, within_eq]
theorem hasJunction_eq {m : AB} (hm : MineIn m) (j : Int) : Bm m j = (decide (0 ≤ j) && decide (j < m.Junctions)) := by
  have hJ := hm.1
  simp only [Bm, Bl]
  rw [wr64 (n := m.Junctions - 1) (by omega), Bool.eq_iff_iff]
  simp; omega
theorem one19_imp {c : Bu} (h : BV c = true) : 0 ≤ c.Junction ∧ 10 ≤ c.Speed ∧ c.Speed ≤ 300 := by
  simp only [BV, AR, Bool.and_eq_true, decide_eq_true_eq] at h; omega
theorem crewOk_eq {m : AB} (hm : MineIn m) (c : Bu) : (Cw c && Bm m c.Junction) = (BV c && !decide (m.Junctions ≤ c.Junction)) := by
  rw [crew_eq, hasJunction_eq hm]
  cases ho : BV c with
  | false => rfl
  | true => have h0 := (one19_imp ho).1; rw [Bool.eq_iff_iff]; simp; omega
/-- one crew -/
theorem crews1_eq (m : AB) (c : Bu) : BX m [c] = (AD m && (BV c && !decide (m.Junctions ≤ c.Junction))) := by
  simp only [BX, mine_eq]
  cases h : AD m with
  | false => rfl
  | true =>
    have hm := l04Ok_imp h
    rw [← crewOk_eq hm]
    simp [LOOP, Dk, at', strB]
/-! ### What is needed to escape -/
structure EscIn (m : AB) (arrivals : List Int) (blocked : Int) : Prop where
  mine : MineIn m
  len : (arrivals.length : Int) = m.Junctions
theorem l19Arr_eq (m : AB) (arrivals : List Int) : CD m arrivals = (((arrivals.length : Int) == m.Junctions) && BI arrivals (-1) 1000000000000) := by
  rw [Bool.eq_iff_iff]
  have h := LOOP_all (b := Dd m arrivals) (n := arrivals.length) (fun rec k i _ => rfl) (k := fun _ => (arrivals.length : Int) == m.Junctions) (((arrivals.length : Int) - 0 : Int).toNat + 1) 0 (by omega) (by omega) (by omega)
  simp only [CD]
  rw [h]
  simp only [Bool.and_eq_true, allWithin_iff, Bool.not_eq_false', AR, decide_eq_true_eq]
  constructor
  · rintro ⟨h1, h2⟩; exact ⟨h2, all_at.2 fun j hj => h1 j (by omega) hj⟩
  · rintro ⟨h1, h2⟩; exact ⟨fun j _ hj => at_all h2 ⟨by omega, by omega⟩, h1⟩

/-! ## Ways out: both models come to the same times -/
def cwSafe (arr : List Int) (v t : Int) : Bool := decide (at' arr v < 0) || decide (t < at' arr v)
def cwW (m : AB) (speed k : Int) : Int := A7 (at' m.Airways k) speed
def cwE (m : AB) (speed k : Int) : List (Int × Int × Int) := [((at' m.Airways k).From, (at' m.Airways k).To, cwW m speed k), ((at' m.Airways k).To, (at' m.Airways k).From, cwW m speed k)]
def cwEs (m : AB) (blocked speed : Int) : List (Int × Int × Int) := ((irange 0 m.Airways.length).filter (fun k => !(k == blocked))).flatMap (cwE m speed)
theorem walk_eq (a : Ar) (speed : Int) : A7 a speed = Bf a speed := rfl
theorem walk_rng {J : Int} {a : Ar} (ha : AirIn J a) {speed : Int} (hs : 10 ≤ speed ∧ speed ≤ 300) : 0 ≤ A7 a speed ∧ A7 a speed ≤ 1000000000 := by
  unfold AirIn at ha
  simp only [A7, BN]
  rw [wr64 (n := 100 * a.Length) (by omega), wr64 (n := 100 * a.Length + speed) (by omega), wr64 (n := 100 * a.Length + speed - 1) (by omega), Int.tdiv_eq_ediv_of_nonneg (by omega)]
  have h0 : 0 ≤ (100 * a.Length + speed - 1) / speed := Int.ediv_nonneg (by omega) (by omega)
  have h1 : (100 * a.Length + speed - 1) / speed < 1000001 := Int.ediv_lt_of_lt_mul (by omega) (by
    have : 1000001 * 1 ≤ 1000001 * speed := by omega
    omega)
  rw [wr64 (by omega)]
  omega
theorem cwEs_ok {m : AB} (hm : MineIn m) (blocked : Int) {speed : Int} (hs : 10 ≤ speed ∧ speed ≤ 300) : ∀ e ∈ cwEs m blocked speed, EdW m.Junctions e := by
  intro e he
  obtain ⟨k, hk, he⟩ := List.mem_flatMap.1 he
  rw [List.mem_filter, mem_irange] at hk
  have ha := hm.at (i := k) (by omega)
  have hw := walk_rng ha hs
  unfold AirIn at ha
  simp only [cwE, List.mem_cons, List.not_mem_nil, or_false] at he
  rcases he with rfl | rfl <;> (simp only [EdW, cwW]; omega)
/-- an airway in both directions -/
def cwStep (m : AB) (arr : List Int) (blocked speed k : Int) (x : List Int × Bool) : List Int × Bool := bif k == blocked then x else swpW (cwSafe arr) (cwE m speed k) x
theorem cw_round (m : AB) (arr : List Int) (blocked speed : Int) : ∀ (n : Nat) (i : Int) (x : List Int × Bool), fori (cwStep m arr blocked speed) n i x = swpW (cwSafe arr) (((irange i n).filter (fun k => !(k == blocked))).flatMap (cwE m speed)) x
  | 0, _, _ => rfl
  | n + 1, i, x => by
    show fori (cwStep m arr blocked speed) n (i + 1) (cwStep m arr blocked speed i x) = _
    rw [cw_round m arr blocked speed n (i + 1)]
    simp only [irange, List.filter_cons, cwStep]
    cases h : (i == blocked) with
    | true => simp
    | false =>
      simp only [Bool.not_false, if_true, List.flatMap_cons, Bool.cond_false]
      simp only [swpW, List.foldl_append]
def cwStart (m : AB) (c : Bu) (start : Int) : List Int := put' (List.replicate m.Junctions.toNat (-1)) c.Junction start
theorem cw_enough {m : AB} (hm : MineIn m) (arr : List Int) (blocked : Int) {c : Bu} (hc : CrewIn m c) {start : Int} (hs : 0 ≤ start ∧ start ≤ 36000) : SmB m.Junctions (cwStart m c start) ∧ Fixd (cwSafe arr) (cwEs m blocked c.Speed) (swps (cwSafe arr) (cwEs m blocked c.Speed) m.Junctions.toNat (cwStart m c start)) := by
  have hJ := hm.1
  obtain ⟨h1, h2⟩ := hc
  refine ⟨SmB.start hJ rfl h1 (by omega), enough (J := m.Junctions.toNat) (s := c.Junction) (c := start) (fun e he => (cwEs_ok hm blocked h2 e he).ok) (by simp [cwStart, put_len]) (by omega) hs.1 (put_at ⟨h1.1, by simp; omega⟩) fun v hv0 hv hvs => ?_⟩
  rw [cwStart, put_at_ne h1.1 hv0 (fun e => hvs e.symm), at_rep hv0 (by omega)]
  omega
theorem rep_len {c : Int} (hc : 1 ≤ c ∧ c ≤ 16) : ((Bg K_6 c).length : Int) = c := by
  rw [rep_eq hc]; simp; omega
theorem cw_start {m : AB} {c : Bu} {start : Int} (hm : MineIn m) (hc : CrewIn m c) (hs : 0 ≤ start ∧ start ≤ 36000) : SmB m.Junctions (put' (Bg [-1] m.Junctions) c.Junction start) := by
  rw [rep_eq hm.1]
  exact SmB.start hm.1 rfl hc.1 (by omega)
theorem cw_pot {m : AB} {c : Bu} {start : Int} (hm : MineIn m) (hc : CrewIn m c) (hs : 0 ≤ start ∧ start ≤ 36000) : pot (put' (Bg [-1] m.Junctions) c.Junction start) + (bif true then 1 else 0) < 300000000000 := by
  have := (cw_start hm hc hs).pot hm.1.2
  simp only [Bool.cond_true]; omega
theorem at2 {J : Int} {a : Ar} (ha : AirIn J a) {q : Int} (hq : 0 ≤ q ∧ q < 2) : (0 ≤ at' ([a.From, a.To] : List Int) q ∧ at' ([a.From, a.To] : List Int) q < J) ∧ 0 ≤ at' ([a.To, a.From] : List Int) q ∧ at' ([a.To, a.From] : List Int) q < J := by
  unfold AirIn at ha
  have e : q = 0 ∨ q = 1 := by omega
  rcases e with e | e <;> (subst e; simp [at']; omega)
theorem times_put {m : AB} {c : Bu} (hm : MineIn m) (hc : 10 ≤ c.Speed ∧ c.Speed ≤ 300) {a0 a : List Int} {fl : Bool} (h : SmI m.Junctions a0 a fl) {k q : Int} (hk : 0 ≤ k ∧ k < m.Airways.length) (hq : 0 ≤ q ∧ q < 2) {P Q : Prop}
    (h1 : ((P ∧ 0 ≤ at' a (at' ([(at' m.Airways k).From, (at' m.Airways k).To] : List Int) q)) ∧ (at' a (at' ([(at' m.Airways k).To, (at' m.Airways k).From] : List Int) q) < 0 ∨ IntKind.wrap .i64 (at' a (at' ([(at' m.Airways k).From, (at' m.Airways k).To] : List Int) q) + A7 (at' m.Airways k) c.Speed) < at' a (at' ([(at' m.Airways k).To, (at' m.Airways k).From] : List Int) q))) ∧ Q) :
    SmI m.Junctions a0 (put' a (at' ([(at' m.Airways k).To, (at' m.Airways k).From] : List Int) q) (IntKind.wrap .i64 (at' a (at' ([(at' m.Airways k).From, (at' m.Airways k).To] : List Int) q) + A7 (at' m.Airways k) c.Speed))) true := by
  have ha := hm.at hk
  have hw := walk_rng ha hc
  have h2 := at2 ha hq
  obtain ⟨⟨⟨_, h3⟩, h4⟩, _⟩ := h1
  have hwr : IntKind.wrap .i64 (at' a (at' ([(at' m.Airways k).From, (at' m.Airways k).To] : List Int) q) + A7 (at' m.Airways k) c.Speed) = at' a (at' ([(at' m.Airways k).From, (at' m.Airways k).To] : List Int) q) + A7 (at' m.Airways k) c.Speed := by
    have := h.1.hi hm.1.2 h2.1.1 h2.1.2; exact wr64 (by omega)
  rw [hwr] at h4 ⊢
  exact h.put hm.1.2 h2.1 h2.2 h3 hw h4
theorem muts_len {s : S} {full : Bool} {M : List (Nat × Nat)} {l L m m' : Nat} (h : E.look M l = some L) (e : m' = m) : PassB s full M (.os l m') (.os L m) [] := by subst e; exact .muts h
theorem go_len (arr times : List Int) (u v w : Int) : (Ci arr times u v w).length = times.length := by
  simp only [Ci]
  cases decide (at' times u < 0) with
  | true => rfl
  | false => cases (Cu arr v (IntKind.wrap .i64 (at' times u + w)) && (decide (at' times v < 0) || decide (IntKind.wrap .i64 (at' times u + w) < at' times v))) <;> simp [put_len]
theorem bif_pr {α ρ : Type} (B : Bool) (r : α × Bool × Int → ρ) (x y : α) (fl : Bool) (q : Int) : (bif B then r (x, true, q) else r (y, fl, q)) = r ((bif B then (x, true) else (y, fl)).1, (bif B then (x, true) else (y, fl)).2, q) := by cases B <;> rfl
theorem implTimes_is {e : Co} {c : Bu} {start : Int} (hm : MineIn e.mine) (hc : CrewIn e.mine c) (hs : 0 ≤ start ∧ start ≤ 36000) : Bj e c start = bif !(cwSafe e.arrivals c.Junction start) then List.replicate e.mine.Junctions.toNat (-1) else swps (cwSafe e.arrivals) (cwEs e.mine e.blocked c.Speed) e.mine.Junctions.toNat (cwStart e.mine c start) := by
  have hJ := hm.1
  have hmb : ∀ j t, B8 e j t = cwSafe e.arrivals j t := fun _ _ => rfl
  simp only [Bj, rep_eq hJ, hmb]
  cases hsf : cwSafe e.arrivals c.Junction start with
  | false => rfl
  | true =>
    simp only [Bool.not_true, Bool.cond_false]
    obtain ⟨hS, hfix⟩ := cw_enough hm e.arrivals e.blocked hc hs
    refine LOOP_fix (safe := cwSafe e.arrivals) hJ.2 (cwEs_ok hm e.blocked hc.2) hS hfix (fun rec a ha => ?_) (fun rec a => by simp only [CB, Bool.cond_false])
    simp only [CB, Bool.cond_true]
    have h2 := LOOP_fori2 (b := B6 e c start rec (fun x1 => x1.1) (a, true)) (k := fun x2 => rec (x2.1, x2.2.1)) (n := (e.mine.Airways.length : Int)) (cwStep e.mine e.arrivals e.blocked c.Speed) (fun rec2 b fl k hk0 hk => by
      simp only [B6, hk, decide_true, Bool.cond_true]
      have hgo : ∀ (b : List Int) (fl : Bool) (u v w : Int), (bif (((k != e.blocked) && (decide (0 ≤ at' b u))) && ((decide (at' b v < 0)) || (decide (IntKind.wrap .i64 (at' b u + w) < at' b v)))) && (B8 e v (IntKind.wrap .i64 (at' b u + w))) then (put' b v (IntKind.wrap .i64 (at' b u + w)), true) else (b, fl)) = bif k == e.blocked then (b, fl) else rlxW (cwSafe e.arrivals) (u, v, w) (b, fl) := fun b fl u v w => by
        simp only [rlxW, hmb, bne]
        cases (k == e.blocked) with
        | true => simp
        | false => simp
      have step : ∀ (f : Nat) (b : List Int) (fl : Bool) (q : Int), LOOP (BJ e c start rec (fun x1 => x1.1) (a, true) rec2 (fun x2 => rec (x2.1, x2.2.1)) (b, fl, k)) (fun x3 => rec2 (x3.1, x3.2.1, k + 1)) f (b, fl, q) = LOOP (BJ e c start rec (fun x1 => x1.1) (a, true) rec2 (fun x2 => rec (x2.1, x2.2.1)) (b, fl, k)) (fun x3 => rec2 (x3.1, x3.2.1, k + 1)) f (b, fl, q) := fun _ _ _ _ => rfl
      show LOOP _ _ 3 _ = _
      have b3 : ∀ (x2 : List Int × Bool × Int) (r3 : List Int × Bool × Int → List Int) (k3 : List Int × Bool × Int → List Int) (b' : List Int) (fl' : Bool) (q u v : Int), x2.2.2 = k → q < 2 → at' ([(at' e.mine.Airways k).From, (at' e.mine.Airways k).To] : List Int) q = u → at' ([(at' e.mine.Airways k).To, (at' e.mine.Airways k).From] : List Int) q = v →
          BJ e c start rec (fun x1 => x1.1) (a, true) rec2 (fun x2 => rec (x2.1, x2.2.1)) x2 r3 k3 (b', fl', q) = r3 ((bif k == e.blocked then (b', fl') else rlxW (cwSafe e.arrivals) (u, v, cwW e.mine c.Speed k) (b', fl')).1, (bif k == e.blocked then (b', fl') else rlxW (cwSafe e.arrivals) (u, v, cwW e.mine c.Speed k) (b', fl')).2, q + 1) := by
        intro x2 r3 k3 b' fl' q u v hx hq hu hv
        rw [← hgo]
        simp only [BJ, hx, hq, decide_true, Bool.cond_true, hu, hv, cwW]
        exact bif_pr _ _ _ _ _ _
      simp only [LOOP]
      rw [b3 _ _ _ _ _ 0 (at' e.mine.Airways k).From (at' e.mine.Airways k).To rfl (by omega) rfl rfl, b3 _ _ _ _ _ (0 + 1) (at' e.mine.Airways k).To (at' e.mine.Airways k).From rfl (by omega) rfl rfl]
      have hend : ¬ ((0 : Int) + 1 + 1) < 2 := by omega
      simp only [BJ, hend, decide_false, Bool.cond_false, cwStep]
      cases (k == e.blocked) <;> rfl) (fun rec2 b fl => by simp [B6]) (((e.mine.Airways.length : Int) - 0 : Int).toNat + 1) 0 a false (by omega) (by omega) (by omega)
    rw [h2, show ((e.mine.Airways.length : Int) - 0 : Int).toNat = e.mine.Airways.length by omega, cw_round]
    rfl
theorem go_rlx {J : Int} {arr a : List Int} (hJ : J ≤ 16) (ha : SmB J a) {e : Int × Int × Int} (he : EdW J e) : Ci arr a e.1 e.2.1 e.2.2 = rlx (cwSafe arr) e a := by
  have h := (rlxW_SmI (safe := cwSafe arr) hJ he (x := (a, false)) (SmI.refl ha)).1
  rw [← h]
  have hsf : ∀ j t, Cu arr j t = cwSafe arr j t := fun _ _ => rfl
  simp only [Ci, rlxW, hsf]
  by_cases h0 : at' a e.1 < 0
  · have : ¬ 0 ≤ at' a e.1 := by omega
    simp [h0, this]
  · have h1 : 0 ≤ at' a e.1 := by omega
    simp only [h0, h1, decide_true, decide_false, Bool.cond_false, Bool.true_and]
    rw [Bool.and_comm]
    cases (decide (at' a e.2.1 < 0) || decide (IntKind.wrap .i64 (at' a e.1 + e.2.2) < at' a e.2.1)) && cwSafe arr e.2.1 (IntKind.wrap .i64 (at' a e.1 + e.2.2)) <;> rfl
theorem swp_fori {arr : List Int} {m : AB} {blocked speed : Int} : ∀ (n : Nat) (i : Int) (a : List Int), fori (fun k a => bif k == blocked then a else swp (cwSafe arr) (cwE m speed k) a) n i a = swp (cwSafe arr) (((irange i n).filter (fun k => !(k == blocked))).flatMap (cwE m speed)) a
  | 0, _, _ => rfl
  | n + 1, i, a => by
    simp only [fori]
    rw [swp_fori n (i + 1)]
    simp only [irange, List.filter_cons]
    cases h : (i == blocked) with
    | true => simp
    | false =>
      simp only [Bool.not_false, if_true, List.flatMap_cons, Bool.cond_false]
      simp only [swp, List.foldl_append]
theorem specTimes_is {m : AB} {arr : List Int} {blocked : Int} {c : Bu} {start : Int} (hm : MineIn m) (hc : CrewIn m c) (hs : 0 ≤ start ∧ start ≤ 36000) : AX m arr blocked c start = bif !(cwSafe arr c.Junction start) then List.replicate m.Junctions.toNat (-1) else swps (cwSafe arr) (cwEs m blocked c.Speed) m.Junctions.toNat (cwStart m c start) := by
  have hJ := hm.1
  have hsf : ∀ j t, Cu arr j t = cwSafe arr j t := fun _ _ => rfl
  simp only [AX]
  have h1 := LOOP_fori (b := CF m arr blocked c start) (k := fun (x1 : (List Int) × Int) => bif !(Cu arr c.Junction start) then x1.1 else LOOP (Ck m arr blocked c start x1) (fun (x2 : (List Int) × Int) => x2.1) ((m.Junctions - 0 : Int).toNat + 1) (put' x1.1 c.Junction start, 0)) (n := m.Junctions) (fun _ xs => xs ++ [-1]) (fun rec xs i h0 h1 => by
    simp only [CF, h1, decide_true, Bool.cond_true]) (fun rec xs => by simp [CF]) ((m.Junctions - 0 : Int).toNat + 1) 0 [] (by omega) (by omega) (by omega)
  rw [h1, rep_append, show (m.Junctions - 0 : Int).toNat = m.Junctions.toNat by omega, hsf]
  cases hsafe : cwSafe arr c.Junction start with
  | false => rfl
  | true =>
    simp only [Bool.not_true, Bool.cond_false]
    obtain ⟨hS, _⟩ := cw_enough hm arr blocked hc hs
    have hok := cwEs_ok hm blocked hc.2
    have h2 := LOOP_foriI (b := Ck m arr blocked c start (List.replicate m.Junctions.toNat (-1), m.Junctions)) (k := fun (x2 : (List Int) × Int) => x2.1) (n := m.Junctions) (fun _ a => SmB m.Junctions a) (fun _ a => swp (cwSafe arr) (cwEs m blocked c.Speed) a) (fun rec a i hi0 hi ha => by
      simp only [Ck, hi, decide_true, Bool.cond_true]
      have h3 := LOOP_foriF2 (b := CE m arr blocked c start (List.replicate m.Junctions.toNat (-1), m.Junctions) rec (fun x2 => x2.1) (a, i)) (k := fun x3 => rec (x3.2, i + 1)) (n := (m.Airways.length : Int)) (fun _ a => SmB m.Junctions a) (fun k a => bif k == blocked then a else swp (cwSafe arr) (cwE m c.Speed k) a) (fun rc b k hk0 hk hb => by
        simp only [CE, hk, decide_true, Bool.cond_true]
        cases hkb : (k == blocked) with
        | true => rfl
        | false =>
          simp only [Bool.cond_false]
          have ha' := hm.at (i := k) ⟨hk0, hk⟩
          have hw := walk_rng ha' hc.2
          unfold AirIn at ha'
          have e1 : EdW m.Junctions ((at' m.Airways k).From, (at' m.Airways k).To, cwW m c.Speed k) := by simp only [EdW, cwW]; omega
          have e2 : EdW m.Junctions ((at' m.Airways k).To, (at' m.Airways k).From, cwW m c.Speed k) := by simp only [EdW, cwW]; omega
          have g1 := go_rlx (arr := arr) hJ.2 hb e1
          have hb' : SmB m.Junctions (rlx (cwSafe arr) ((at' m.Airways k).From, (at' m.Airways k).To, cwW m c.Speed k) b) := swp_SmB (es := [((at' m.Airways k).From, (at' m.Airways k).To, cwW m c.Speed k)]) hJ.2 (fun e he => by simp at he; subst he; exact e1) hb
          have g2 := go_rlx (arr := arr) hJ.2 hb' e2
          simp only [cwW] at g1 g2
          rw [← walk_eq, g1, g2]
          rfl) (fun b k hk0 hk hb => by
        cases hkb : (k == blocked) with
        | true => exact hb
        | false => exact swp_SmB hJ.2 (fun e he => hok e (List.mem_flatMap.2 ⟨k, List.mem_filter.2 ⟨mem_irange.2 ⟨hk0, by omega⟩, by simp [hkb]⟩, he⟩)) hb) (fun rc b _ => by simp [CE]) (((m.Airways.length : Int) - 0 : Int).toNat + 1) 0 a (by omega) (by omega) (by omega) ha
      rw [h3, show ((m.Airways.length : Int) - 0 : Int).toNat = m.Airways.length by omega, swp_fori]
      rfl) (fun a i _ _ ha => swp_SmB hJ.2 hok ha) (fun rec a _ => by simp [Ck]) ((m.Junctions - 0 : Int).toNat + 1) 0 (cwStart m c start) (by omega) (by omega) (by omega) hS
    rw [show (m.Junctions - 0 : Int).toNat = m.Junctions.toNat by omega, fori_swpsW] at h2
    exact h2
theorem times_eq {m : AB} {arr : List Int} {blocked : Int} {c : Bu} {start : Int} (hm : MineIn m) (hc : CrewIn m c) (hs : 0 ≤ start ∧ start ≤ 36000) : Bj (Co.mk m arr blocked) c start = AX m arr blocked c start := by
  rw [implTimes_is (e := Co.mk m arr blocked) hm hc hs, specTimes_is hm hc hs]
theorem times_SmB {m : AB} {arr : List Int} {blocked : Int} {c : Bu} {start : Int} (hm : MineIn m) (hc : CrewIn m c) (hs : 0 ≤ start ∧ start ≤ 36000) : SmB m.Junctions (AX m arr blocked c start) := by
  have hJ := hm.1
  rw [specTimes_is hm hc hs]
  cases cwSafe arr c.Junction start with
  | false =>
    refine ⟨by simp; omega, fun j hj0 hj => ?_⟩
    have := cntS_rng (List.replicate m.Junctions.toNat (-1))
    simp only [Bool.not_false, Bool.cond_true]
    rw [at_rep hj0 (by omega)]; omega
  | true => exact swps_SmBw hJ.2 (cwEs_ok hm blocked hc.2) _ (cw_enough hm arr blocked hc hs).1

/-! ## What the head of an ask for a way out comes to -/
theorem escapeOf1 (m : AB) (arr : List Int) (blocked : Int) (c : Bu) (start : Int) : (AO m arr blocked [c] start []).2.1 = Bz m arr blocked c start ∧ (Bz m arr blocked c start = 0 → (AO m arr blocked [c] start []).1 = Co.mk m arr blocked) := by
  have hj : BL m [] = true := rfl
  simp only [AO, Bz, crews1_eq, l19Arr_eq, within_eq, Dl, hj]
  cases AD m <;> cases BV c <;> cases decide (m.Junctions ≤ c.Junction) <;> cases AR blocked (-1) ((m.Airways.length : Int) - 1) <;> cases AR start 0 36000 <;> cases hl : ((arr.length : Int) == m.Junctions) <;> cases BI arr (-1) 1000000000000 <;> simp [bne, hl]
theorem l19Ask_imp {m : AB} {arr : List Int} {blocked : Int} {c : Bu} {start : Int} (h : Bz m arr blocked c start = 0) : MineIn m ∧ CrewIn m c ∧ (0 ≤ start ∧ start ≤ 36000) ∧ (arr.length : Int) = m.Junctions := by
  simp only [Bz, l19Arr_eq, Dl] at h
  cases h1 : AD m <;> cases h2 : BV c <;> cases h3 : decide (m.Junctions ≤ c.Junction) <;> cases h4 : AR blocked (-1) ((m.Airways.length : Int) - 1) <;> cases h5 : AR start 0 36000 <;> cases h6 : ((arr.length : Int) == m.Junctions) <;> cases h7 : BI arr (-1) 1000000000000 <;> simp [h1, h2, h3, h4, h5, h6, h7] at h
  have hc := one19_imp h2
  simp only [decide_eq_false_iff_not] at h3
  exact ⟨l04Ok_imp h1, ⟨⟨hc.1, by omega⟩, hc.2⟩, l00In_imp h5, by simpa using h6⟩
theorem l19Ask_impM {m : AB} {arr : List Int} {blocked : Int} {c : Bu} {start : Int} (h : Bz m arr blocked c start = 0) : MineIn m := (l19Ask_imp h).1
theorem l19Ask_impC {m : AB} {arr : List Int} {blocked : Int} {c : Bu} {start : Int} (h : Bz m arr blocked c start = 0) : CrewIn m c := (l19Ask_imp h).2.1
theorem l19Ask_impS {m : AB} {arr : List Int} {blocked : Int} {c : Bu} {start : Int} (h : Bz m arr blocked c start = 0) : 0 ≤ start ∧ start ≤ 36000 := (l19Ask_imp h).2.2.1
theorem l19Ask_impL {m : AB} {arr : List Int} {blocked : Int} {c : Bu} {start : Int} (h : Bz m arr blocked c start = 0) : (arr.length : Int) = m.Junctions := (l19Ask_imp h).2.2.2
theorem escapeOf_imp {m : AB} {arr : List Int} {blocked : Int} {l : List Bu} {start : Int} {exits : List Int} (h : (AO m arr blocked l start exits).2.1 = 0) : (AO m arr blocked l start exits).1 = Co.mk m arr blocked ∧ BX m l = true ∧ (0 ≤ start ∧ start ≤ 36000) ∧ (arr.length : Int) = m.Junctions ∧ BL m exits = true := by
  simp only [AO, within_eq] at h ⊢
  cases h1 : BX m l <;> cases h4 : AR blocked (-1) ((m.Airways.length : Int) - 1) <;> cases h5 : AR start 0 36000 <;> cases h6 : ((arr.length : Int) == m.Junctions) <;> cases h7 : BI arr (-1) 1000000000000 <;> cases h8 : BL m exits <;> simp [h1, h4, h5, h6, h7, h8, bne] at h ⊢
  exact ⟨l00In_imp h5, by simpa using h6⟩
section
variable {m : AB} {arr : List Int} {blocked : Int} {c : Bu} {l : List Bu} {start : Int} {exits : List Int}
theorem escapeOf_impM (h : (AO m arr blocked l start exits).2.1 = 0) : MineIn (AO m arr blocked l start exits).1.mine := by
  have g := escapeOf_imp h
  rw [g.1]
  have h2 := g.2.1
  simp only [BX, mine_eq] at h2
  cases ho : AD m with
  | false => simp [ho] at h2
  | true => exact l04Ok_imp ho
theorem escapeOf_impL (h : (AO m arr blocked l start exits).2.1 = 0) : ((AO m arr blocked l start exits).1.arrivals.length : Int) = (AO m arr blocked l start exits).1.mine.Junctions := by
  have g := escapeOf_imp h
  rw [g.1]; exact g.2.2.2.1
theorem escapeOf_impS (h : (AO m arr blocked l start exits).2.1 = 0) : 0 ≤ start ∧ start ≤ 36000 := (escapeOf_imp h).2.2.1
theorem escapeOf_impC (h : (AO m arr blocked [c] start exits).2.1 = 0) : CrewIn (AO m arr blocked [c] start exits).1.mine c := by
  have g := escapeOf_imp h
  rw [g.1]
  have h2 := g.2.1
  rw [crews1_eq, Bool.and_eq_true, Bool.and_eq_true, Bool.not_eq_true', decide_eq_false_iff_not] at h2
  have hc := one19_imp h2.2.1
  exact (⟨⟨hc.1, by have := h2.2.2; omega⟩, hc.2⟩ : CrewIn m c)
end

/-! ## Refuges: both models judge alike -/
theorem valid_eq2 {α : Type} [Inhabited α] {list : List α} {N : Int} {b b' : (Int → Bool) → (Int → Bool) → Int → Bool} (v v' : α → Bool) (id : α → List UInt8) (ok : Bool)
    (hb : ∀ rec k i, 0 ≤ i → b rec k i = bif decide (i < (list.length : Int)) then (bif (!(v (at' list i))) || ((decide (0 < i)) && (strB .leq (id (at' list i)) (id (at' list (i - 1))))) then false else rec (i + 1)) else k i)
    (hb' : ∀ rec k i, 0 ≤ i → b' rec k i = bif decide (i < (list.length : Int)) then (bif (!(v' (at' list i))) || ((decide (0 < i)) && (strB .geq (id (at' list (i - 1))) (id (at' list i)))) then false else rec (i + 1)) else k i) (hv : ok = true → ∀ x, v x = v' x) :
    (bif !ok || decide (N < (list.length : Int)) then false else LOOP b (fun _ => true) (((list.length : Int) - 0 : Int).toNat + 1) 0) = (bif !ok || decide (N < (list.length : Int)) then false else LOOP b' (fun _ => true) (((list.length : Int) - 0 : Int).toNat + 1) 0) := by
  cases ok with
  | false => rfl
  | true =>
    have h : LOOP b (fun _ => true) (((list.length : Int) - 0 : Int).toNat + 1) 0 = LOOP b' (fun _ => true) (((list.length : Int) - 0 : Int).toNat + 1) 0 := by
      rw [Bool.eq_iff_iff, valid_iff v' id hb', valid_iff v id (fun rec k i h => by rw [hb rec k i h, strleq_geq])]
      simp only [hv rfl]
    rw [h]
def RefugeIn (m : AB) (list : List AS) : Prop := list.length ≤ 8 ∧ ∀ x ∈ list, 0 ≤ x.Junction ∧ x.Junction < m.Junctions
theorem refuge_eq (x : AS) : B9 x = Cf x := by
  simp only [B9, Cf, name_eq, BP, within_eq]
theorem one20_imp {x : AS} (h : Cf x = true) : 0 ≤ x.Junction := by
  simp only [Cf, AR, Bool.and_eq_true, decide_eq_true_eq] at h; omega
theorem refuges_eq (m : AB) (list : List AS) : Ca m list = CS m list := by
  simp only [Ca, mine_eq, CS]
  refine valid_eq2 (fun t => B9 t && Bm m t.Junction) (fun t => Cf t && !decide (m.Junctions ≤ t.Junction)) (fun t => t.Id) _ (fun rec k i _ => by simp only [C4, Bool.not_and]) (fun rec k i _ => by simp only [DC, Bool.not_and, Bool.not_not]) fun ho x => ?_
  rw [refuge_eq, hasJunction_eq (l04Ok_imp ho)]
  cases ho : Cf x with
  | false => rfl
  | true => have h0 := one20_imp ho; rw [Bool.eq_iff_iff]; simp; omega
theorem l20Ok_imp {m : AB} {list : List AS} (h : CS m list = true) : RefugeIn m list := by
  simp only [CS] at h
  cases ho : AD m with
  | false => simp [ho] at h
  | true =>
    by_cases hl : (8 : Int) < list.length
    · simp [ho, hl] at h
    · simp only [ho, hl, Bool.not_true, Bool.false_or, decide_false, Bool.cond_false] at h
      have h1 := (valid_iff (fun t => Cf t && !decide (m.Junctions ≤ t.Junction)) (fun t => t.Id) (fun rec k i _ => by simp only [DC, Bool.not_and, Bool.not_not])).1 h
      refine ⟨by omega, all_at.2 fun j hj => ?_⟩
      have h2 := (h1.1 j (by omega)).1
      simp only [Bool.and_eq_true, Bool.not_eq_true', decide_eq_false_iff_not] at h2
      have := one20_imp h2.1
      omega
theorem ValidRefuges_imp {m : AB} {list : List AS} (h : Ca m list = true) : RefugeIn m list := l20Ok_imp (by rw [← refuges_eq]; exact h)

/-! ## Walks there and back -/
inductive Way (es : List (Int × Int × Int)) (s : Int) : Int → Int → Prop
  | nil : Way es s s 0
  | snoc {u n : Int} {e : Int × Int × Int} : Way es s u n → e ∈ es → e.1 = u → Way es s e.2.1 (n + e.2.2)
theorem Way.cons {es : List (Int × Int × Int)} {e : Int × Int × Int} (he : e ∈ es) : ∀ {v n : Int}, Way es e.2.1 v n → Way es e.1 v (e.2.2 + n) := by
  intro v n h
  induction h with
  | nil =>
    have := Way.snoc (es := es) (s := e.1) .nil he rfl
    rwa [Int.zero_add, ← Int.add_zero e.2.2] at this
  | snoc h1 h2 h3 ih =>
    have := Way.snoc ih h2 h3
    rwa [Int.add_assoc] at this
section
variable {J : Nat} {safe : Int → Int → Bool} {es : List (Int × Int × Int)} {s : Int}
structure WI (J : Nat) (es : List (Int × Int × Int)) (s : Int) (a : List Int) : Prop where
  len : a.length = J
  at0 : at' a s = 0
  way : ∀ v : Int, 0 ≤ v → v < J → at' a v = -1 ∨ (0 ≤ at' a v ∧ Way es s v (at' a v))
theorem rlx_WI (hs : 0 ≤ s ∧ s < J) {a : List Int} (h : WI J es s a) {e : Int × Int × Int} (he : e ∈ es) (hok : EdOk J e) : WI J es s (rlx safe e a) := by
  rcases rlx_cases (safe := safe) e a with h0 | ⟨h1, h2, h3, h4⟩
  · rw [h0]; exact h
  · rw [h4]
    obtain ⟨b1, b2, b3, b4, b5⟩ := hok
    have hl := h.len
    have h00 := h.at0
    have hne : e.2.1 ≠ s := fun e0 => by rw [e0, h00] at h2; omega
    refine ⟨by rw [put_len]; exact hl, by rw [put_at_ne b3 hs.1 hne]; exact h00, fun v v0 v1 => ?_⟩
    by_cases hv : v = e.2.1
    · subst hv
      rw [put_at ⟨b3, by omega⟩]
      have hw := (h.way e.1 b1 b2).resolve_left (by omega)
      exact .inr ⟨by omega, .snoc hw.2 he rfl⟩
    · rw [put_at_ne b3 v0 (fun e0 => hv e0.symm)]; exact h.way v v0 v1
theorem swp_WI (hs : 0 ≤ s ∧ s < J) : ∀ (fs : List (Int × Int × Int)) {a : List Int}, (∀ e ∈ fs, e ∈ es ∧ EdOk J e) → WI J es s a → WI J es s (swp safe fs a)
  | [], _, _, h => h
  | e :: fs, a, hf, h => by
    have he := hf e List.mem_cons_self
    exact swp_WI hs fs (a := rlx safe e a) (fun e' h' => hf e' (List.mem_cons_of_mem _ h')) (rlx_WI hs h he.1 he.2)
theorem swps_WI (hs : 0 ≤ s ∧ s < J) (hok : ∀ e ∈ es, EdOk J e) : ∀ (k : Nat) {a : List Int}, WI J es s a → WI J es s (swps safe es k a)
  | 0, _, h => h
  | k + 1, _, h => swps_WI hs hok k (swp_WI hs es (fun e he => ⟨he, hok e he⟩) h)
def wlk (J : Nat) (safe : Int → Int → Bool) (es : List (Int × Int × Int)) (s : Int) : List Int := swps safe es J (put' (List.replicate J (-1)) s 0)
theorem wlk_WI (hs : 0 ≤ s ∧ s < J) (hok : ∀ e ∈ es, EdOk J e) : WI J es s (wlk J safe es s) := by
  refine swps_WI hs hok J ⟨by rw [put_len, List.length_replicate], put_at ⟨hs.1, by rw [List.length_replicate]; exact hs.2⟩, fun v v0 v1 => ?_⟩
  by_cases hv : v = s
  · subst hv
    rw [put_at ⟨hs.1, by rw [List.length_replicate]; exact hs.2⟩]
    exact .inr ⟨by omega, .nil⟩
  · rw [put_at_ne hs.1 v0 (fun e0 => hv e0.symm), at_rep v0 (by omega)]; exact .inl rfl
end

/-! ## Decimal numerals: the reference's digits are the library's numeral; lists of numbers as text -/
def DecI (l : Nat) (m : Int) : Prop := l ≤ 19 ∧ m.natAbs < 10 ^ (19 - l)
theorem DecI.start {n : Int} (h : -9223372036854775808 ≤ n ∧ n ≤ 9223372036854775807) : DecI 0 n := ⟨by omega, by show n.natAbs < 10000000000000000000; omega⟩
theorem DecI.len {l : Nat} {m : Int} (h : DecI l m) : l ≤ 19 := h.1
theorem tdiv_abs (m : Int) : (Int.tdiv m 10).natAbs = m.natAbs / 10 := by
  rw [Int.natAbs_tdiv]; rfl
theorem DecI.wr {l : Nat} {m : Int} (h : DecI l m) : IntKind.wrap .i64 (Int.tdiv m 10) = Int.tdiv m 10 := by
  have h1 : m.natAbs < 10000000000000000000 := Nat.lt_of_lt_of_le h.2 (by
    show 10 ^ (19 - l) ≤ 10 ^ 19
    exact Nat.pow_le_pow_right (by omega) (by omega))
  have h2 := tdiv_abs m
  exact wr64 (by omega)
theorem DecI.step {a : List Int} {b m : Int} (h : DecI a.length m) (hm : ¬ m = 0) : DecI (a ++ [b]).length (IntKind.wrap .i64 (Int.tdiv m 10)) := by
  rw [h.wr]
  have h1 := h.1
  have h2 := h.2
  have hl : a.length < 19 := by
    by_cases e : a.length = 19
    · rw [e] at h2
      have : m.natAbs < 1 := h2
      omega
    · omega
  refine ⟨by simp; omega, ?_⟩
  rw [tdiv_abs]
  have e : 19 - a.length = (19 - (a ++ [b]).length) + 1 := by simp; omega
  rw [e, Nat.pow_succ] at h2
  omega
theorem dec_mu {l : Nat} {m : Int} (h : DecI l m) (hm : ¬ m = 0) : (IntKind.wrap .i64 (Int.tdiv m 10)).natAbs < m.natAbs := by
  rw [h.wr, tdiv_abs]; omega

/-! ## Flows, fires, arrivals, crews and refuges that are drawn -/
structure DF (n : Int) (L : Nat) {α : Type} (r : List α × Ak) : Prop where
  lim : Lim r.2 n
  len : r.1.length ≤ L
theorem DF.bif {α : Type} {n : Int} {L : Nat} {c : Bool} {a b : List α × Ak} (h1 : DF n L a) (h2 : DF n L b) : DF n L (bif c then a else b) := by cases c <;> assumption
theorem Lim.iff {s t : Ak} {n : Int} {c : Bool} (h1 : Lim s n) (h2 : Lim t n) : Lim (bif c then s else t) n := by cases c <;> assumption
theorem Lim.bifp {s : Ak} {n k : Int} {c : Bool} (h : Lim s n) : Lim (bif c then (Aa s k).2 else s) (n + 2) := Lim.iff h.pick (h.mono (by omega))
theorem draw7 {s : Ak} {n : Int} {m : AB} (h : Lim s n) (hA : m.Airways.length ≤ 30) : DF (n + 100) 31 (AM s m) := by
  simp only [AM, JN]
  have hend : ∀ v2 : List Int × Int × Int × List Int, Lim (Ak.mk v2.1 v2.2.1 v2.2.2.1) (n + 70) → v2.2.2.2.length ≤ 30 → DF (n + 100) 31 (bif (Aa (Ak.mk v2.1 v2.2.1 v2.2.2.1) 20).1 == 0 then (v2.2.2.2 ++ ([0] : List Int), (Aa (Ak.mk v2.1 v2.2.1 v2.2.2.1) 20).2) else bif (Aa (Ak.mk v2.1 v2.2.1 v2.2.2.1) 20).1 == 1 then bif decide (0 < (v2.2.2.2.length : Int)) then (put' v2.2.2.2 0 (Aj (Aa (Ak.mk v2.1 v2.2.1 v2.2.2.1) 20).2 ([100000, 100001, (-100001)] : List Int)).1, (Aj (Aa (Ak.mk v2.1 v2.2.1 v2.2.2.1) 20).2 ([100000, 100001, (-100001)] : List Int)).2.1) else (v2.2.2.2, (Aa (Ak.mk v2.1 v2.2.1 v2.2.2.1) 20).2) else (v2.2.2.2, (Aa (Ak.mk v2.1 v2.2.1 v2.2.2.1) 20).2)) := fun v2 hL hl => by
    have l1 := hL.pick (k := 20)
    refine DF.bif ⟨l1.mono (by omega), by simp only [List.length_append, List.length_cons, List.length_nil]; omega⟩ (DF.bif (DF.bif ⟨l1.among.mono (by omega), by simp only [put_len]; omega⟩ ⟨l1.mono (by omega), by simp only; omega⟩) ⟨l1.mono (by omega), by simp only; omega⟩)
  have hs : Lim (bif AD m then (Aa s 4).2 else s) (n + 2) := Lim.iff h.pick (h.mono (by omega))
  generalize hS : (bif AD m then (Aa s 4).2 else s) = S at hs
  cases hc : (AD m) && (decide (0 < (Aa s 4).1)) with
  | true =>
    rw [Bool.and_eq_true] at hc
    have hM := (meshes_is (l04Ok_imp hc.1)).1
    simp only [Bool.cond_true]
    refine LOOP_post (fun (x : List Int × Int × Int × List Int × Int) => (0 ≤ x.2.2.2.2 ∧ x.2.2.2.2 ≤ (Be m).length ∧ x.2.2.2.1.length = m.Airways.length) ∧ Lim (Ak.mk x.1 x.2.1 x.2.2.1) (n + 2 + 2 * x.2.2.2.2)) (fun x => (((Be m).length : Int) - x.2.2.2.2).toNat) (fun _ r => DF (n + 100) 31 r) (fun rec x hI ih => ?_) _ _ ⟨by simp, hs.mono (by simp)⟩ (by simp)
    obtain ⟨c, a, sd, A, k⟩ := x
    obtain ⟨⟨g0, g1, g2⟩, hL⟩ := hI
    simp only at g0 g1 g2 hL
    simp only [C2]
    by_cases hk : k < ((Be m).length : Int)
    · simp only [hk, decide_true, Bool.cond_true]
      exact ih _ ⟨⟨by simp only; omega, by simp only; omega, by simp only; rw [add_len]; exact g2⟩, (hL.pick (k := 4000)).mono (by simp only; omega)⟩ (by simp only; omega)
    · simp only [hk, decide_false, Bool.cond_false]
      exact hend (c, a, sd, A) (hL.mono (by omega)) (by simp only; omega)
  | false =>
    simp only [Bool.cond_false, List.length_replicate]
    refine LOOP_post (fun (x : List Int × Int × Int × List Int × Int) => (0 ≤ x.2.2.2.2 ∧ x.2.2.2.2 ≤ m.Airways.length ∧ x.2.2.2.1.length = m.Airways.length) ∧ Lim (Ak.mk x.1 x.2.1 x.2.2.1) (n + 2 + 2 * x.2.2.2.2)) (fun x => ((m.Airways.length : Int) - x.2.2.2.2).toNat) (fun _ r => DF (n + 100) 31 r) (fun rec x hI ih => ?_) _ _ ⟨by simp, hs.mono (by simp)⟩ (by simp)
    obtain ⟨c, a, sd, A, k⟩ := x
    obtain ⟨⟨g0, g1, g2⟩, hL⟩ := hI
    simp only at g0 g1 g2 hL
    simp only [C3]
    by_cases hk : k < (A.length : Int)
    · simp only [hk, decide_true, Bool.cond_true]
      exact ih _ ⟨⟨by simp only; omega, by simp only; omega, by simp only; rw [put_len]; exact g2⟩, (hL.pick (k := 4000)).mono (by simp only; omega)⟩ (by simp only; omega)
    · simp only [hk, decide_false, Bool.cond_false]
      exact hend (c, a, sd, A) (hL.mono (by omega)) (by simp only; omega)
theorem Lim.flows7 {s : Ak} {n : Int} {m : AB} (h : Lim s n) (hA : m.Airways.length ≤ 30) : Lim (AM s m).2 (n + 100) := (draw7 h hA).lim
theorem Lim.fire17 {s : Ak} {n : Int} {m : AB} (h : Lim s n) : Lim (A1 s m).2 (n + 12) := by
  simp only [A1, JN]
  have hend : ∀ {S : Ak}, Lim S (n + 6) → Lim (Aa S 20).2 (n + 8) := fun hS => hS.pick.mono (by omega)
  have he2 : ∀ {S : Ak} {l : List Int}, Lim S (n + 8) → Lim (Aj S l).2.1 (n + 12) := fun hS => hS.among.mono (by omega)
  have h3 : ∀ {k : Int}, Lim (Aa (Aa (Aa s 10).2 (m.Airways.length : Int)).2 k).2 (n + 6) := h.pick.pick.pick.mono (by omega)
  have h1 : Lim (Aa s 10).2 (n + 6) := h.pick.mono (by omega)
  cases decide (0 < (m.Airways.length : Int)) with
  | true =>
    simp only [Bool.cond_true]
    exact limB (he2 (hend h3)) (limB (he2 (hend h3)) (limB (he2 (hend h3)) ((hend h3).mono (by omega))))
  | false =>
    simp only [Bool.cond_false]
    exact limB (he2 (hend h1)) (limB (he2 (hend h1)) (limB (he2 (hend h1)) ((hend h1).mono (by omega))))
theorem min17 {a : Int} : A4 a 17 ≤ 17 := by
  simp only [A4]
  by_cases h : a < 17
  · simp only [h, decide_true, Bool.cond_true]; omega
  · simp [h]
theorem draw19a {s : Ak} {n : Int} {m : AB} (h : Lim s n) (hA : m.Airways.length ≤ 30) : DF (n + 300) 20 (Ay s m) := by
  simp only [Ay, JN]
  have hs : Lim (bif (AD m) && (decide (0 < (m.Airways.length : Int))) then (Aa s 3).2 else s) (n + 2) := Lim.iff h.pick (h.mono (by omega))
  generalize hS : (bif (AD m) && (decide (0 < (m.Airways.length : Int))) then (Aa s 3).2 else s) = S at hs
  have l7 := Lim.flows7 (m := m) hs hA
  have l8 := Lim.fire17 (m := m) l7
  have hend : ∀ v2 : List Int × Int × Int, Lim (Ak.mk v2.1 v2.2.1 v2.2.2) (n + 200) → DF (n + 300) 20 (LOOP (Ce s m v2) (fun (x1 : (List Int) × Int × Int × (List Int) × Int) => bif (Aa (Ak.mk x1.1 x1.2.1 x1.2.2.1) 16).1 == 0 then (x1.2.2.2.1 ++ K_6, (Aa (Ak.mk x1.1 x1.2.1 x1.2.2.1) 16).2) else bif (Aa (Ak.mk x1.1 x1.2.1 x1.2.2.1) 16).1 == 1 then bif decide (0 < (x1.2.2.2.1.length : Int)) then (put' x1.2.2.2.1 0 (-2), (Aa (Ak.mk x1.1 x1.2.1 x1.2.2.1) 16).2) else (x1.2.2.2.1, (Aa (Ak.mk x1.1 x1.2.1 x1.2.2.1) 16).2) else (x1.2.2.2.1, (Aa (Ak.mk x1.1 x1.2.1 x1.2.2.1) 16).2)) (((A4 m.Junctions 17) - 0 : Int).toNat + 1) (v2.1, v2.2.1, v2.2.2, K_5, 0)) := fun v2 hv => by
    have hm := min17 (a := m.Junctions)
    generalize hM : A4 m.Junctions 17 = M at hm
    refine LOOP_post (fun (x : List Int × Int × Int × List Int × Int) => (0 ≤ x.2.2.2.2 ∧ (x.2.2.2.1.length : Int) = x.2.2.2.2 ∧ (x.2.2.2.2 ≤ M ∨ x.2.2.2.2 = 0)) ∧ Lim (Ak.mk x.1 x.2.1 x.2.2.1) (n + 200 + 4 * x.2.2.2.2)) (fun x => (M - x.2.2.2.2).toNat) (fun _ r => DF (n + 300) 20 r) (fun rec x hI ih => ?_) _ _ ⟨by simp, hv.mono (by simp)⟩ (by simp)
    obtain ⟨c, a, sd, A, k⟩ := x
    obtain ⟨⟨g0, g1, g2⟩, hL⟩ := hI
    simp only at g0 g1 g2 hL
    simp only [Ce, hM]
    by_cases hk : k < M
    · simp only [hk, decide_true, Bool.cond_true]
      exact ih _ ⟨⟨by simp only; omega, by simp only [List.length_append, List.length_cons, List.length_nil]; omega, by simp only; omega⟩, (hL.pick (k := 60)).among.mono (by simp only; omega)⟩ (by simp only; omega)
    · simp only [hk, decide_false, Bool.cond_false]
      have l1 := hL.pick (k := 16)
      refine DF.bif ⟨l1.mono (by omega), by simp only [List.length_append, List.length_cons, List.length_nil]; omega⟩ (DF.bif (DF.bif ⟨l1.mono (by omega), by simp only [put_len]; omega⟩ ⟨l1.mono (by omega), by simp only; omega⟩) ⟨l1.mono (by omega), by simp only; omega⟩)
  cases ((AD m) && (decide (0 < (m.Airways.length : Int)))) && (decide (0 < (Aa s 3).1)) with
  | false => exact hend _ (Lim.mono hs (by omega))
  | true =>
    simp only [Bool.cond_true]
    cases ha : Cd m (AM S m).1 (A1 (AM S m).2 m).1 == 0 with
    | false => exact hend _ (Lim.mono l8 (by omega))
    | true =>
      have h1 := l17Ask_imp (by simpa using ha)
      have h2 := (arrivals_SmB h1.1 h1.2.1 h1.2.2).2
      have h3 := h1.1.1
      exact ⟨Lim.mono l8 (by omega), by simp only [Bool.cond_true]; omega⟩
theorem Lim.arr19 {s : Ak} {n : Int} {m : AB} (h : Lim s n) (hA : m.Airways.length ≤ 30) : Lim (Ay s m).2 (n + 300) := (draw19a h hA).lim
theorem Lim.crew19 {s : Ak} {n : Int} {m : AB} (h : Lim s n) : Lim (AN s m).2 (n + 12) := by
  simp only [AN]
  have l1 : ∀ {l : List (List UInt8)} {k : Int}, Lim (Aa (Aa (Aa (Ab s l).2.1 150).2 k).2 20).2 (n + 8) := h.text.pick.pick.pick.mono (by omega)
  have he2 : ∀ {S : Ak} {l : List Int}, Lim S (n + 8) → Lim (Aj S l).2.1 (n + 12) := fun hS => hS.among.mono (by omega)
  exact limB (he2 l1) (limB (he2 l1) (Lim.mono l1 (by omega)))
structure D19 (n : Int) (r : AB × (List Int) × Int × Bu × Int × Ak) : Prop where
  lim : Lim r.2.2.2.2.2 n
  air : r.1.Airways.length ≤ 30
  arr : r.2.1.length ≤ 20
theorem draw19 {s : Ak} {n : Int} (h : Lim s n) : D19 (n + 900) (AL s) := by
  have h0 := Lim.draw4 h
  have h1 := draw19a h0.lim h0.len
  have h2 := Lim.crew19 (m := (Al s).1) (h1.lim.pick (k := 9))
  exact ⟨h2.pick.among.mono (by omega), h0.len, h1.len⟩
theorem Lim.all19 {s : Ak} {n : Int} (h : Lim s n) : Lim (AL s).2.2.2.2.2 (n + 900) := (draw19 h).lim
theorem Lim.one20 {s : Ak} {n j : Int} {id : List UInt8} (h : Lim s n) : Lim (AH s id j).2 (n + 4) := h.pick.among.mono (by omega)
theorem Lim.bend20 {s : Ak} {n : Int} {x : AS} (h : Lim s n) : Lim (BF s x).2 (n + 4) := by
  simp only [BF]
  exact limB (Lim.mono (Lim.among (Lim.pick h)) (by omega)) (limB (Lim.mono (Lim.among (Lim.pick h)) (by omega)) (limB (Lim.mono (Lim.among (Lim.pick h)) (by omega)) (limB (Lim.mono (Lim.text (Lim.pick h)) (by omega)) (Lim.mono (Lim.pick h) (by omega)))))
theorem draw20 {s : Ak} {n : Int} {m : AB} (h : Lim s n) : DF (n + 200) 10 (BG s m) := by
  simp only [BG]
  refine LOOP_post (fun (x : (List Int) × Int × Int × (List AS) × Int) => (0 ≤ x.2.2.2.2 ∧ x.2.2.2.2 ≤ 3 ∧ (x.2.2.2.1.length : Int) ≤ x.2.2.2.2) ∧ Lim (Ak.mk x.1 x.2.1 x.2.2.1) (n + 10 * x.2.2.2.2)) (fun x => (3 - x.2.2.2.2).toNat) (fun _ r => DF (n + 200) 10 r) (fun rec x hI ih => ?_) _ _ ⟨by simp, h.mono (by simp)⟩ (by simp)
  obtain ⟨c, a, sd, A, k⟩ := x
  obtain ⟨⟨g0, g1, g2⟩, hL⟩ := hI
  simp only at g0 g1 g2 hL
  simp only [Dg]
  rw [show ((K_3.length : Nat) : Int) = 3 from rfl]
  by_cases hk : k < 3
  · simp only [hk, decide_true, Bool.cond_true]
    have go : ∀ (S : Ak) (B : List AS), (B.length : Int) ≤ A.length + 1 → Lim S (n + 10 * (k + 1)) → DF (n + 200) 10 (rec (S.code, S.at_, S.seed, B, k + 1)) := fun S B hB hS => ih _ ⟨⟨by simp only; omega, by simp only; omega, by simp only; omega⟩, hS⟩ (by simp only; omega)
    have l1 := hL.one (k := 3)
    exact DF.bif (go _ _ (by simp only [List.length_append, List.length_cons, List.length_nil]; omega) (Lim.mono (Lim.one20 (l1.pick (k := AC 1 m.Junctions))) (by omega))) (go _ _ (by omega) (l1.mono (by omega)))
  · simp only [hk, decide_false, Bool.cond_false]
    have l1 := hL.pick (k := 20)
    refine DF.bif ⟨Lim.mono (Lim.bend20 (Lim.one20 l1)) (by omega), by simp only [List.length_append, List.length_cons, List.length_nil]; omega⟩ (DF.bif ?_ ⟨l1.mono (by omega), by simp only; omega⟩)
    have hm := among2 (B := 9) l1 (x := 8) (y := 9) (by omega) (by omega)
    have l2 := l1.among (l := ([8, 9] : List Int))
    generalize hM : (Aj (Aa (Ak.mk c a sd) 20).2 ([8, 9] : List Int)).1 = M at hm
    refine LOOP_post (fun (x : (List Int) × Int × Int × (List AS) × Int) => (0 ≤ x.2.2.2.2 ∧ (x.2.2.2.1.length : Int) = x.2.2.2.2 ∧ (x.2.2.2.2 ≤ M ∨ x.2.2.2.2 = 0)) ∧ Lim (Ak.mk x.1 x.2.1 x.2.2.1) (n + 50 + 4 * x.2.2.2.2)) (fun x => (M - x.2.2.2.2).toNat) (fun _ r => DF (n + 200) 10 r) (fun rec2 x hI ih2 => ?_) _ _ ⟨by simp, l2.mono (by simp only; omega)⟩ (by simp)
    obtain ⟨c2, a2, sd2, B, j⟩ := x
    obtain ⟨⟨q0, q1, q2⟩, hL2⟩ := hI
    simp only at q0 q1 q2 hL2
    simp only [Df, hM]
    by_cases hj : j < M
    · simp only [hj, decide_true, Bool.cond_true]
      exact ih2 _ ⟨⟨by simp only; omega, by simp only [List.length_append, List.length_cons, List.length_nil]; omega, by simp only; omega⟩, (Lim.one20 (j := 0) (id := K_7 ++ (BB j)) hL2).mono (by simp only; omega)⟩ (by simp only; omega)
    · simp only [hj, decide_false, Bool.cond_false]
      exact ⟨hL2.mono (by omega), by simp only; omega⟩
theorem Lim.list20 {s : Ak} {n : Int} {m : AB} (h : Lim s n) : Lim (BG s m).2 (n + 200) := (draw20 h).lim
theorem dec_le {n : Int} (hn : -9223372036854775808 ≤ n ∧ n ≤ 9223372036854775807) : (BB n).length ≤ 20 := by
  simp only [BB]
  by_cases h0 : n = 0
  · subst h0; simp
  · have e : (n == 0) = false := by simpa using h0
    rw [e]
    simp only [Bool.cond_false]
    refine LOOP_post (fun (x : List Int × Int) => DecI x.1.length x.2) (fun x => x.2.natAbs) (fun _ (r : List UInt8) => r.length ≤ 20) (fun rec x hI ih => ?_) _ _ (DecI.start hn) (by simp)
    obtain ⟨ds, q⟩ := x
    dsimp only at hI
    simp only [m_spec_l01Dec_b1, JN]
    by_cases hq : q = 0
    · subst hq
      simp only [bne_self_eq_false, Bool.cond_false]
      have hl := hI.len
      have hend : ∀ v : List Int, v.length ≤ 20 → (LOOP (Dp n (ds, 0) v) (fun (x2 : (List Int) × Int) => chars x2.1) (v.length + 1) (K_5, IntKind.wrap .i64 ((v.length : Int) - 1))).length ≤ 20 := fun v hv => by
        rw [wr64 (by omega)]
        refine LOOP_post (fun (x : List Int × Int) => (x.1.length : Int) + x.2 + 1 = v.length ∧ -1 ≤ x.2) (fun x => (x.2 + 1).toNat) (fun _ (r : List UInt8) => r.length ≤ 20) (fun rec2 x hI2 ih2 => ?_) _ _ ⟨by simp, by simp only; omega⟩ (by simp only; omega)
        obtain ⟨zs, j⟩ := x
        obtain ⟨g0, g1⟩ := hI2
        dsimp only at g0 g1
        simp only [Dp]
        by_cases hj : 0 ≤ j
        · simp only [hj, decide_true, Bool.cond_true]
          exact ih2 _ ⟨by simp only [List.length_append, List.length_cons, List.length_nil]; omega, by simp only; omega⟩ (by simp only; omega)
        · simp only [hj, decide_false, Bool.cond_false]
          rw [chars_len]; omega
      cases decide (n < 0) with
      | true => exact hend _ (by simp only [List.length_append, List.length_cons, List.length_nil]; omega)
      | false => exact hend _ (by omega)
    · have eq : (q != 0) = true := by simpa using hq
      rw [eq]
      simp only [Bool.cond_true]
      cases decide (Int.tmod q 10 < 0) with
      | true => exact ih _ (hI.step hq) (dec_mu hI hq)
      | false => exact ih _ (hI.step hq) (dec_mu hI hq)

/-! ## What the walks of walks and hours ask -/
theorem MineOk.of {m : AB} (h : AD m = true) : MineIn m := l04Ok_imp h
theorem aw_imp {l : List Int} {a b : Int} (h : BI l a b = true) : ∀ y ∈ l, a ≤ y ∧ y ≤ b := allWithin_iff.1 h
/-! ### Walks, one way and the other -/
def wkE (m : AB) (speed : Int) : List (Int × Int × Int) := cwEs m (-1) speed
def wkS (m : AB) : Int → Int → Bool := cwSafe (List.replicate m.Junctions.toNat (-1))
theorem wkE_ok {m : AB} (hm : MineIn m) {speed : Int} (hs : 10 ≤ speed ∧ speed ≤ 300) : ∀ e ∈ wkE m speed, EdOk m.Junctions.toNat e := fun e he => (cwEs_ok hm (-1) hs e he).ok
theorem wkS_yes {m : AB} : ∀ v t : Int, 0 ≤ v → v < (m.Junctions.toNat : Int) → wkS m v t = true := by
  intro v t h0 h1
  unfold wkS cwSafe
  rw [at_rep h0 h1]; rfl
theorem walks_is {m : AB} (hm : MineIn m) {j speed : Int} (hj : 0 ≤ j ∧ j < m.Junctions) (hs : 10 ≤ speed ∧ speed ≤ 300) : A9 m j speed = wlk m.Junctions.toNat (wkS m) (wkE m speed) j := by
  simp only [A9]
  rw [implTimes_is (e := Co.mk m (Bg K_6 m.Junctions) (-1)) (c := Bu.mk ([] : List UInt8) j speed) hm ⟨hj, hs⟩ (by omega)]
  dsimp only
  rw [rep_eq hm.1]
  have : cwSafe (List.replicate m.Junctions.toNat (-1)) j 0 = true := wkS_yes (m := m) j 0 hj.1 (by omega)
  rw [this]; rfl
theorem walks_len {m : AB} (hm : MineIn m) {j speed : Int} (hj : 0 ≤ j ∧ j < m.Junctions) (hs : 10 ≤ speed ∧ speed ≤ 300) : ((A9 m j speed).length : Int) = m.Junctions := by
  rw [walks_is hm hj hs, (wlk_WI (safe := wkS m) (s := j) ⟨hj.1, by omega⟩ (wkE_ok hm hs)).len]; omega
end Go.Proofs.YtibbfdojcdkopaaGreat
