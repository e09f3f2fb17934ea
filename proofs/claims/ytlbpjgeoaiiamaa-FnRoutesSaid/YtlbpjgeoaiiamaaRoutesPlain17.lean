/-
  PLAIN LAWS about the models: no program in sight. Conditions: as each theorem states them.
-/
import Derived.Test.YtlbpjgeoaiiamaaRoutesPlain16
set_option linter.unusedVariables false
set_option linter.unusedSimpArgs false
set_option linter.unusedSectionVars false
set_option linter.unnecessarySimpa false
namespace Go.Proofs.Ytlbpjgeoaiiamaa
open Go Go.RowKit Go.Proofs Go.Proofs.Ytlbpjgeoaiiamaa.E
/-! ## Meshes, and flows along them -/
theorem rep_at {n : Nat} {e : Int} : at' (List.replicate n (0 : Int)) e = 0 := by
  simp only [at', List.getD_eq_getElem?_getD, List.getElem?_replicate]
  split <;> rfl
theorem has_is {list : List Int} {n : Int} (h : m_spec_l00Has list n = false) : n ∉ list := by
  have : (m_spec_l00Has list n = false → n ∉ list) := by
    simp only [m_spec_l00Has]
    refine LOOP_post (fun (x : Int) => (0 ≤ x ∧ x ≤ list.length) ∧ ∀ q, 0 ≤ q → q < x → at' list q ≠ n) (fun x => ((list.length : Int) - x).toNat) (fun _ (r : Bool) => r = false → n ∉ list) (fun rec x hI ih => ?_) _ _ ⟨⟨by omega, by omega⟩, fun q h1 h2 => by omega⟩ (by omega)
    obtain ⟨⟨h0, h1⟩, h2⟩ := hI
    simp only [m_spec_l00Has_b1]
    by_cases hi : x < (list.length : Int)
    · simp only [hi, decide_true, Bool.cond_true]
      by_cases e : at' list x = n
      · have : (at' list x == n) = true := by simpa using e
        rw [this]; intro hf; simp at hf
      · have : (at' list x == n) = false := by simpa using e
        rw [this]
        refine ih _ ⟨⟨by omega, by omega⟩, fun q g1 g2 => ?_⟩ (by omega)
        by_cases e2 : q = x
        · subst e2; exact e
        · exact h2 q g1 (by omega)
    · simp only [hi, decide_false, Bool.cond_false]
      intro _ hm
      obtain ⟨j, hj, e⟩ := List.mem_iff_getElem.1 hm
      exact h2 j (by omega) (by omega) (by rw [at_lt hj]; exact e)
  exact this h
structure MeshOk (n : Int) (w : List Int) : Prop where
  ok : ∀ y ∈ w, y ≠ 0 ∧ 0 ≤ edge y ∧ edge y < n
  nd : w.Pairwise (fun a b => edge a ≠ edge b)
  len : w.length ≤ 20
theorem meshes_is {m : gMine} (hm : MineIn m) : (m_spec_l04Meshes m).length ≤ m.Airways.length ∧ ∀ w ∈ m_spec_l04Meshes m, MeshOk m.Airways.length w := by
  simp only [m_spec_l04Meshes]
  refine LOOP_post (fun (x : Int × List (List Int)) => (0 ≤ x.1 ∧ x.1 ≤ m.Airways.length ∧ (x.2.length : Int) ≤ x.1) ∧ ∀ w ∈ x.2, MeshOk m.Airways.length w) (fun x => ((m.Airways.length : Int) - x.1).toNat) (fun _ (r : List (List Int)) => r.length ≤ m.Airways.length ∧ ∀ w ∈ r, MeshOk m.Airways.length w) (fun rec x hI ih => ?_) _ _ ⟨by simp, fun w hw => by simp at hw⟩ (by simp)
  obtain ⟨k, out⟩ := x
  obtain ⟨⟨h0, h1, h2⟩, h3⟩ := hI
  simp only at h0 h1 h2 h3
  simp only [m_spec_l04Meshes_b1]
  by_cases hk : k < (m.Airways.length : Int)
  · simp only [hk, decide_true, Bool.cond_true]
    cases hh : m_spec_l00Has (m_spec_l04Tree m) k with
    | true => exact ih _ ⟨by simp only; omega, h3⟩ (by simp only; omega)
    | false =>
      have hn := has_is hh
      have ha := hm.at ⟨h0, hk⟩
      unfold AirIn at ha
      have hT := (tree_in m).1
      have hW := walk_is hm hT (from_ := (at' m.Airways k).To) (to := (at' m.Airways k).From) (by omega) (by omega)
      refine ih _ ⟨by simp only [List.length_append, List.length_cons, List.length_nil]; omega, fun w hw => ?_⟩ (by simp only; omega)
      rcases List.mem_append.1 hw with h | h
      · exact h3 w h
      · rw [List.mem_singleton.1 h]
        have ek : edge (k + 1) = k := by simp only [edge]; rw [if_neg (by omega)]; omega
        refine ⟨fun y hy => ?_, ?_, by have := hW.len; simp only [List.length_append, List.length_cons, List.length_nil]; omega⟩
        · rcases List.mem_append.1 hy with g | g
          · rw [List.mem_singleton.1 g, ek]; omega
          · have := hW.ok y g
            exact ⟨this.1, hT _ this.2⟩
        · rw [List.pairwise_append]
          refine ⟨List.pairwise_singleton _ _, hW.nd, fun a ha b hb e => ?_⟩
          rw [List.mem_singleton.1 ha, ek] at e
          exact hn (e ▸ (hW.ok b hb).2)
  · simp only [hk, decide_false, Bool.cond_false]
    exact ⟨by omega, h3⟩
theorem add_is {flows walk : List Int} {amount B C : Int} (hw : MeshOk flows.length walk) (hB : -B ≤ amount ∧ amount ≤ B) (h0 : 0 ≤ B) (hC : ∀ e, 0 ≤ e → e < (flows.length : Int) → -C ≤ at' flows e ∧ at' flows e ≤ C) (hBC : B ≤ 1000000 ∧ C ≤ 1000000) (hn : flows.length ≤ 100000) :
    (m_spec_l07Add flows walk amount).length = flows.length ∧ ∀ e, 0 ≤ e → e < (flows.length : Int) → -(B + C) ≤ at' (m_spec_l07Add flows walk amount) e ∧ at' (m_spec_l07Add flows walk amount) e ≤ B + C := by
  simp only [m_spec_l07Add]
  refine LOOP_post (fun (x : List Int × Int) => (x.1.length = flows.length ∧ 0 ≤ x.2 ∧ x.2 ≤ walk.length) ∧ ∀ e, 0 ≤ e → e < (flows.length : Int) → (-(B + C) ≤ at' x.1 e ∧ at' x.1 e ≤ B + C) ∧ ((∀ q, 0 ≤ q → q < x.2 → edge (at' walk q) ≠ e) → at' x.1 e = at' flows e)) (fun x => ((walk.length : Int) - x.2).toNat) (fun _ (r : List Int) => r.length = flows.length ∧ ∀ e, 0 ≤ e → e < (flows.length : Int) → -(B + C) ≤ at' r e ∧ at' r e ≤ B + C) (fun rec x hI ih => ?_) _ _ ⟨by simp, fun e e0 e1 => ⟨by have := hC e e0 e1; simp only; omega, fun _ => rfl⟩⟩ (by simp)
  obtain ⟨xs, i⟩ := x
  obtain ⟨⟨h1, h2, h3⟩, h4⟩ := hI
  simp only at h1 h2 h3 h4
  simp only [m_spec_l07Add_b1]
  by_cases hi : i < (walk.length : Int)
  · simp only [hi, decide_true, Bool.cond_true]
    have hy := at_all hw.ok (i := i) ⟨h2, hi⟩
    have fresh : ∀ q, 0 ≤ q → q < i → edge (at' walk q) ≠ edge (at' walk i) := fun q q0 q1 => by
      have := List.pairwise_iff_getElem.1 hw.nd q.toNat i.toNat (by omega) (by omega) (by omega)
      have e1 := at_lt (xs := walk) (j := q.toNat) (by omega)
      have e2 := at_lt (xs := walk) (j := i.toNat) (by omega)
      rw [show ((q.toNat : Nat) : Int) = q by omega] at e1
      rw [show ((i.toNat : Nat) : Int) = i by omega] at e2
      rw [e1, e2]; exact this
    have hx := (h4 _ hy.2.1 hy.2.2).2 fresh
    have hc := hC _ hy.2.1 hy.2.2
    have put : ∀ v : Int, -(B + C) ≤ v → v ≤ B + C → (rec (put' xs (edge (at' walk i)) v, i + 1)).length = flows.length ∧ ∀ e, 0 ≤ e → e < (flows.length : Int) → -(B + C) ≤ at' (rec (put' xs (edge (at' walk i)) v, i + 1)) e ∧ at' (rec (put' xs (edge (at' walk i)) v, i + 1)) e ≤ B + C := fun v v0 v1 => by
      refine ih _ ⟨by simp only [put_len]; omega, fun e e0 e1 => ?_⟩ (by simp only; omega)
      simp only
      by_cases he : e = edge (at' walk i)
      · subst he
        rw [put_at (by omega)]
        exact ⟨⟨v0, v1⟩, fun hq => absurd rfl (hq i h2 (by omega))⟩
      · rw [put_at_ne hy.2.1 e0 (fun g => he g.symm)]
        have := h4 e e0 e1
        exact ⟨this.1, fun hq => this.2 fun q q0 q1 => hq q q0 (by omega)⟩
    by_cases hp : 0 < at' walk i
    · have e : edge (at' walk i) = at' walk i - 1 := by simp only [edge]; rw [if_neg (by omega)]
      simp only [hp, decide_true, Bool.cond_true]
      rw [wr64 (n := at' walk i - 1) (by omega), ← e, hx, wr64 (n := at' flows (edge (at' walk i)) + amount) (by omega)]
      exact put _ (by omega) (by omega)
    · have e : edge (at' walk i) = 0 - at' walk i - 1 := by simp only [edge]; rw [if_pos (by omega)]; omega
      simp only [hp, decide_false, Bool.cond_false]
      rw [wr64 (n := 0 - at' walk i) (by omega), wr64 (n := 0 - at' walk i - 1) (by omega), ← e, hx, wr64 (n := at' flows (edge (at' walk i)) - amount) (by omega)]
      exact put _ (by omega) (by omega)
  · simp only [hi, decide_false, Bool.cond_false]
    exact ⟨h1, fun e e0 e1 => (h4 e e0 e1).1⟩
theorem add_len {flows walk : List Int} {amount : Int} : (m_spec_l07Add flows walk amount).length = flows.length := by
  simp only [m_spec_l07Add]
  refine LOOP_post (fun (x : List Int × Int) => x.1.length = flows.length) (fun x => ((walk.length : Int) - x.2).toNat) (fun _ (r : List Int) => r.length = flows.length) (fun rec x hI ih => ?_) _ _ rfl (by simp)
  simp only [m_spec_l07Add_b1]
  by_cases hi : x.2 < (walk.length : Int)
  · simp only [hi, decide_true, Bool.cond_true]
    cases decide (0 < at' walk x.2) with
    | true => exact ih _ (by simp only [put_len]; exact hI) (by simp only; omega)
    | false => exact ih _ (by simp only [put_len]; exact hI) (by simp only; omega)
  · simp only [hi, decide_false, Bool.cond_false]; exact hI
theorem mesh_at {m : gMine} (hm : MineIn m) {i : Int} (hi : 0 ≤ i ∧ i < (m_spec_l04Meshes m).length) : MeshOk m.Airways.length (at' (m_spec_l04Meshes m) i) := at_all (meshes_is hm).2 hi
theorem flows_in {code : List Int} (hc : ∀ y ∈ code, 0 ≤ y ∧ y ≤ 255) {m : gMine} (hm : MineIn m) : FlowsIn m (m_spec_R8Flows code m) := by
  have hM := meshes_is hm
  have hA := hm.2.1
  simp only [m_spec_R8Flows]
  refine LOOP_post (fun (x : List Int × Int × Int × List Int × Int) => (x.2.2.2.1.length = m.Airways.length ∧ 0 ≤ x.2.2.2.2 ∧ x.2.2.2.2 ≤ (m_spec_l04Meshes m).length) ∧ (∀ e, 0 ≤ e → e < (m.Airways.length : Int) → -(2500 * x.2.2.2.2) ≤ at' x.2.2.2.1 e ∧ at' x.2.2.2.1 e ≤ 2500 * x.2.2.2.2) ∧ Lim (gl00Src.mk x.1 x.2.1 x.2.2.1) (2 * x.2.2.2.2)) (fun x => (((m_spec_l04Meshes m).length : Int) - x.2.2.2.2).toNat) (fun _ (r : List Int) => FlowsIn m r) (fun rec x hI ih => ?_) _ _ ⟨by simp, fun e e0 e1 => by
      simp only
      rw [rep_at]; omega, (Lim.from hc).mono (by simp)⟩ (by simp)
  obtain ⟨c, a, sd, fl, i⟩ := x
  obtain ⟨⟨h1, h2, h3⟩, h4, hL⟩ := hI
  simp only at h1 h2 h3 h4 hL
  simp only [m_spec_R8Flows_b1]
  by_cases hi : i < ((m_spec_l04Meshes m).length : Int)
  · simp only [hi, decide_true, Bool.cond_true]
    have hp := hL.num (k := 4000)
    have hp2 := hp.2 (by omega)
    have hL2 := hL.pick (k := 4000)
    generalize hS : m_spec_l00Src_pick (gl00Src.mk c a sd) 4000 = S at hp hp2 hL2
    rw [wr64 (n := S.1 - 1500) (by omega)]
    have hw := mesh_at hm ⟨h2, hi⟩
    rw [show (m.Airways.length) = fl.length from h1.symm] at hw
    have ha := add_is (B := 2500) (C := 2500 * i) hw (amount := S.1 - 1500) (by omega) (by omega) (fun e e0 e1 => h4 e e0 (by omega)) (by omega) (by omega)
    exact ih _ ⟨⟨by rw [ha.1]; exact h1, by simp only; omega, by simp only; omega⟩, fun e e0 e1 => by have := ha.2 e e0 (by omega); simp only; omega, hL2.mono (by simp only; omega)⟩ (by simp only; omega)
  · simp only [hi, decide_false, Bool.cond_false]
    refine ⟨h1, all_at.2 fun j hj => ?_⟩
    have := h4 j (by omega) (by omega)
    omega

end Go.Proofs.Ytlbpjgeoaiiamaa
