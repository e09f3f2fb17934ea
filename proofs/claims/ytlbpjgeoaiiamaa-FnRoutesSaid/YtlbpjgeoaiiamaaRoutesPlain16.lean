/-
  PLAIN LAWS about the models: no program in sight. Conditions: as each theorem states them.
-/
import Derived.Test.YtlbpjgeoaiiamaaRoutesPlain15
set_option linter.unusedVariables false
set_option linter.unusedSimpArgs false
set_option linter.unusedSectionVars false
set_option linter.unnecessarySimpa false
namespace Go.Proofs.Ytlbpjgeoaiiamaa
open Go Go.RowKit Go.Proofs Go.Proofs.Ytlbpjgeoaiiamaa.E
/-! ## What a walk is made of -/
def edge (y : Int) : Int := (if y < 0 then -y else y) - 1
structure PathI (m : gMine) (list far out : List Int) (d : Int) : Prop where
  ok : ∀ y ∈ out, y ≠ 0 ∧ edge y ∈ list ∧ (d < at' far (at' m.Airways (edge y)).From ∨ d < at' far (at' m.Airways (edge y)).To)
  nd : out.Pairwise (fun a b => edge a ≠ edge b)
theorem PathI.add {m : gMine} {list far out : List Int} {d e y : Int} (h : PathI m list far out d) (he : e ∈ list) (hy : y ≠ 0) (hye : edge y = e) (h1 : (at' far (at' m.Airways e).From = d ∧ at' far (at' m.Airways e).To = d - 1) ∨ (at' far (at' m.Airways e).From = d - 1 ∧ at' far (at' m.Airways e).To = d)) : PathI m list far (out ++ [y]) (d - 1) := by
  refine ⟨fun z hz => ?_, ?_⟩
  · rcases List.mem_append.1 hz with h2 | h2
    · have := h.ok z h2
      exact ⟨this.1, this.2.1, by omega⟩
    · rw [List.mem_singleton.1 h2, hye]; exact ⟨hy, he, by omega⟩
  · rw [List.pairwise_append]
    refine ⟨h.nd, List.pairwise_singleton _ _, fun a ha b hb e2 => ?_⟩
    rw [List.mem_singleton.1 hb, hye] at e2
    have := (h.ok a ha).2.2
    rw [e2] at this; omega
structure WalkR (list : List Int) (r : List Int × Bool) : Prop where
  len : r.1.length ≤ 16
  ok : ∀ y ∈ r.1, y ≠ 0 ∧ edge y ∈ list
  nd : r.1.Pairwise (fun a b => edge a ≠ edge b)
theorem walk_is {m : gMine} {list : List Int} {from_ to : Int} (hm : MineIn m) (hL : ListIn m list) (hf : 0 ≤ from_ ∧ from_ < m.Junctions) (ht : 0 ≤ to ∧ to < m.Junctions) : WalkR list (m_spec_l04Walk m list from_ to) := by
  have hJ := hm.1
  have hn := hm.2.1
  simp only [m_spec_l04Walk]
  refine LOOP_post (fun (x : List Int × Int) => ((x.1.length : Int) = x.2 ∧ 0 ≤ x.2 ∧ x.2 ≤ m.Junctions) ∧ ∀ j, 0 ≤ j → j < x.2 → at' x.1 j = -1) (fun x => (m.Junctions - x.2).toNat) (fun _ (r : List Int × Bool) => WalkR list r) (fun rec x hI ih => ?_) _ _ ⟨by simp; omega, fun j h0 h1 => by simp only at h1; omega⟩ (by simp)
  obtain ⟨xs, i⟩ := x
  obtain ⟨⟨h1, h2, h3⟩, h4⟩ := hI
  simp only at h1 h2 h3 h4
  simp only [m_spec_l04Walk_b1]
  by_cases hi : i < m.Junctions
  · simp only [hi, decide_true, Bool.cond_true]
    refine ih _ ⟨by simp only [List.length_append, List.length_cons, List.length_nil]; omega, fun j j0 j1 => ?_⟩ (by simp only; omega)
    simp only at j1 ⊢
    by_cases e : j = i
    · subst e; rw [show j = ((xs.length : Nat) : Int) by omega]; exact at_app_last
    · have := h4 j j0 (by omega)
      have hj : j.toNat < xs.length := by omega
      have e2 := at_app (x := (-1 : Int)) hj
      rw [show ((j.toNat : Nat) : Int) = j by omega] at e2
      rw [e2]; exact this
  · simp only [hi, decide_false, Bool.cond_false]
    have hF0 := Far.start (list := list) (by omega) (fun j j0 j1 => h4 j j0 (by omega)) ht
    refine LOOP_post (fun (x : List Int × Int) => (0 ≤ x.2 ∧ x.2 ≤ m.Junctions) ∧ Far m list to x.2 x.1) (fun x => (m.Junctions - x.2).toNat) (fun _ (r : List Int × Bool) => WalkR list r) (fun rec2 x hI ih2 => ?_) _ _ ⟨by simp only; omega, hF0⟩ (by simp)
    obtain ⟨far, s⟩ := x
    obtain ⟨⟨s0, s1⟩, hF⟩ := hI
    simp only at s0 s1 hF
    simp only [m_spec_l04Walk_b2]
    by_cases hs : s < m.Junctions
    · simp only [hs, decide_true, Bool.cond_true]
      refine LOOP_post (fun (x : List Int × Int) => (0 ≤ x.2 ∧ x.2 ≤ list.length) ∧ Far m list to (s + 1) x.1) (fun x => ((list.length : Int) - x.2).toNat) (fun _ (r : List Int × Bool) => WalkR list r) (fun rec3 x hI ih3 => ?_) _ _ ⟨by simp, hF.mono (by omega)⟩ (by simp)
      obtain ⟨fr, q⟩ := x
      obtain ⟨⟨q0, q1⟩, hG⟩ := hI
      simp only at q0 q1 hG
      simp only [m_spec_l04Walk_b3, JN]
      by_cases hq : q < (list.length : Int)
      · simp only [hq, decide_true, Bool.cond_true]
        have air := hL.air hm ⟨q0, hq⟩
        have two : ∀ v : List Int, Far m list to (s + 1) v → WalkR list (bif ((at' v (at' m.Airways (at' list q)).To) == s) && (decide ((at' v (at' m.Airways (at' list q)).From) < 0)) then rec3 (put' v (at' m.Airways (at' list q)).From (s + 1), q + 1) else rec3 (v, q + 1)) := fun v hv => by
          by_cases hc : at' v (at' m.Airways (at' list q)).To = s ∧ at' v (at' m.Airways (at' list q)).From < 0
          · have : (((at' v (at' m.Airways (at' list q)).To) == s) && (decide ((at' v (at' m.Airways (at' list q)).From) < 0))) = true := by simpa using hc
            rw [this]
            exact ih3 _ ⟨by simp only; omega, hv.set hm hL ⟨q0, hq⟩ ⟨air.2.2.1, air.2.2.2⟩ ⟨air.1, air.2.1⟩ s0 (by omega) hc.1 hc.2 (.inr ⟨rfl, rfl⟩)⟩ (by simp only; omega)
          · have : (((at' v (at' m.Airways (at' list q)).To) == s) && (decide ((at' v (at' m.Airways (at' list q)).From) < 0))) = false := by rw [Bool.eq_false_iff]; simpa using hc
            rw [this]
            exact ih3 _ ⟨by simp only; omega, hv⟩ (by simp only; omega)
        by_cases hc : at' fr (at' m.Airways (at' list q)).From = s ∧ at' fr (at' m.Airways (at' list q)).To < 0
        · have : (((at' fr (at' m.Airways (at' list q)).From) == s) && (decide ((at' fr (at' m.Airways (at' list q)).To) < 0))) = true := by simpa using hc
          rw [this]
          exact two _ (hG.set hm hL ⟨q0, hq⟩ ⟨air.1, air.2.1⟩ ⟨air.2.2.1, air.2.2.2⟩ s0 (by omega) hc.1 hc.2 (.inl ⟨rfl, rfl⟩))
        · have : (((at' fr (at' m.Airways (at' list q)).From) == s) && (decide ((at' fr (at' m.Airways (at' list q)).To) < 0))) = false := by rw [Bool.eq_false_iff]; simpa using hc
          rw [this]
          exact two _ hG
      · simp only [hq, decide_false, Bool.cond_false]
        exact ih2 _ ⟨by simp only; omega, hG⟩ (by simp only; omega)
    · simp only [hs, decide_false, Bool.cond_false]
      by_cases hneg : at' far from_ < 0
      · simp only [hneg, decide_true, Bool.cond_true]
        exact ⟨by simp, fun y hy => by simp at hy, List.Pairwise.nil⟩
      · simp only [hneg, decide_false, Bool.cond_false]
        have hup := hF.low from_ hf.1 hf.2
        refine LOOP_post (fun (x : List Int × Int) => ((0 ≤ x.2 ∧ x.2 < m.Junctions) ∧ 0 ≤ at' far x.2 ∧ (x.1.length : Int) + at' far x.2 ≤ 16) ∧ PathI m list far x.1 (at' far x.2)) (fun x => (at' far x.2).toNat) (fun _ (r : List Int × Bool) => WalkR list r) (fun rec4 x hI ih4 => ?_) _ _ ⟨⟨hf, by simp only; omega, by simp only [List.length_nil]; omega⟩, ⟨fun y hy => by simp at hy, List.Pairwise.nil⟩⟩ (by simp only; omega)
        obtain ⟨out, at_⟩ := x
        obtain ⟨⟨a0, a1, a2⟩, hP⟩ := hI
        simp only at a0 a1 a2 hP
        simp only [m_spec_l04Walk_b4]
        by_cases hat : at_ = to
        · subst hat
          simp only [bne_self_eq_false, Bool.cond_false]
          exact ⟨by simp only; omega, fun y hy => ⟨(hP.ok y hy).1, (hP.ok y hy).2.1⟩, hP.nd⟩
        · have hb : (at_ != to) = true := by simpa using hat
          rw [hb]
          simp only [Bool.cond_true]
          have hpos := hF.pos a0 a1 hat
          have hlow := hF.low at_ a0.1 a0.2
          have hwr : IntKind.wrap .i64 (at' far at_ - 1) = at' far at_ - 1 := wr64 (by omega)
          refine LOOP_post (fun (x : Int × List Int × Int) => (0 ≤ x.1 ∧ x.1 ≤ list.length) ∧ (x.2.1 = out ∧ x.2.2 = at_) ∧ NoStep m list far at_ x.1) (fun x => ((list.length : Int) - x.1).toNat) (fun _ (r : List Int × Bool) => WalkR list r) (fun rec5 x hI ih5 => ?_) _ _ ⟨by simp, ⟨rfl, rfl⟩, NoStep.nil⟩ (by simp)
          obtain ⟨q, o2, b2⟩ := x
          obtain ⟨⟨q0, q1⟩, ⟨e1, e2⟩, hN⟩ := hI
          simp only at q0 q1 e1 e2 hN
          subst e1; subst e2
          simp only [m_spec_l04Walk_b5, hwr]
          by_cases hq : q < (list.length : Int)
          · simp only [hq, decide_true, Bool.cond_true]
            have air := hL.air hm ⟨q0, hq⟩
            have hr := hL.at ⟨q0, hq⟩
            have hmem : at' list q ∈ list := at_mem ⟨q0, hq⟩
            by_cases c1 : (at' m.Airways (at' list q)).From = b2 ∧ at' far (at' m.Airways (at' list q)).To = at' far b2 - 1
            · have : (((at' m.Airways (at' list q)).From == b2) && ((at' far (at' m.Airways (at' list q)).To) == at' far b2 - 1)) = true := by simpa using c1
              rw [this]
              simp only [Bool.cond_true]
              have hw : IntKind.wrap .i64 (at' list q + 1) = at' list q + 1 := wr64 (by omega)
              rw [hw]
              have hP2 := hP.add hmem (y := at' list q + 1) (by omega) (by simp only [edge]; rw [if_neg (by omega)]; omega) (.inl ⟨by rw [c1.1], c1.2⟩)
              refine ih4 _ ⟨⟨⟨air.2.2.1, air.2.2.2⟩, by simp only; rw [c1.2]; omega, by simp only [List.length_append, List.length_cons, List.length_nil]; rw [c1.2]; omega⟩, ?_⟩ (by simp only; rw [c1.2]; omega)
              simp only; rw [c1.2]; exact hP2
            · have : (((at' m.Airways (at' list q)).From == b2) && ((at' far (at' m.Airways (at' list q)).To) == at' far b2 - 1)) = false := by rw [Bool.eq_false_iff]; simpa using c1
              rw [this]
              simp only [Bool.cond_false]
              by_cases c2 : (at' m.Airways (at' list q)).To = b2 ∧ at' far (at' m.Airways (at' list q)).From = at' far b2 - 1
              · have : (((at' m.Airways (at' list q)).To == b2) && ((at' far (at' m.Airways (at' list q)).From) == at' far b2 - 1)) = true := by simpa using c2
                rw [this]
                simp only [Bool.cond_true]
                have hw : IntKind.wrap .i64 ((IntKind.wrap .i64 (0 - at' list q)) - 1) = 0 - at' list q - 1 := by rw [wr64 (n := 0 - at' list q) (by omega), wr64 (by omega)]
                rw [hw]
                have hP2 := hP.add hmem (y := 0 - at' list q - 1) (by omega) (by simp only [edge]; rw [if_pos (by omega)]; omega) (.inr ⟨c2.2, by rw [c2.1]⟩)
                refine ih4 _ ⟨⟨⟨air.1, air.2.1⟩, by simp only; rw [c2.2]; omega, by simp only [List.length_append, List.length_cons, List.length_nil]; rw [c2.2]; omega⟩, ?_⟩ (by simp only; rw [c2.2]; omega)
                simp only; rw [c2.2]; exact hP2
              · have : (((at' m.Airways (at' list q)).To == b2) && ((at' far (at' m.Airways (at' list q)).From) == at' far b2 - 1)) = false := by rw [Bool.eq_false_iff]; simpa using c2
                rw [this]
                simp only [Bool.cond_false]
                refine ih5 _ ⟨by simp only; omega, ⟨rfl, rfl⟩, hN.skip (fun hS => ?_)⟩ (by simp only; omega)
                unfold StepTo at hS
                rcases hS with h | h
                · exact c1 h
                · exact c2 h
          · exact (hF.stuck a0 a1 hat (n := q) (by omega) hN).elim

end Go.Proofs.Ytlbpjgeoaiiamaa
