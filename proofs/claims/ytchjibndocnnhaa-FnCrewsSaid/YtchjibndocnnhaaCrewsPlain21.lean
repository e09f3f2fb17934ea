/-
  PLAIN LAWS about the models: no program in sight. Conditions: as each theorem states them.
-/
import Derived.Test.YtchjibndocnnhaaCrewsPlain20
set_option linter.unusedVariables false
set_option linter.unusedSimpArgs false
set_option linter.unusedSectionVars false
set_option linter.unnecessarySimpa false
namespace Go.Proofs.Ytchjibndocnnhaa
open Go Go.RowKit Go.Proofs Go.Proofs.Ytchjibndocnnhaa.E
/-! ## Sets of jobs that fit -/
def Wt (list : List gJob) (k : Int) (S : List Int) : Int := SN k (S.map (at' list))
theorem Wt_app {list : List gJob} {k : Int} {A B : List Int} : Wt list k (A ++ B) = Wt list k A + Wt list k B := by
  simp only [Wt, List.map_append, SN_app]
def InR (n : Int) (S : List Int) : Prop := ∀ y ∈ S, 0 ≤ y ∧ y < n
theorem InR.app {n : Int} {A B : List Int} (ha : InR n A) (hb : InR n B) : InR n (A ++ B) := fun y hy => by
  rcases List.mem_append.1 hy with h | h
  · exact ha y h
  · exact hb y h
theorem jobs_ok {m : gMine} {list : List gJob} (hj : JobsIn m list) {S : List Int} (h : InR list.length S) : ∀ t ∈ S.map (at' list), JobOk m t := fun t ht => by
  obtain ⟨y, hy, rfl⟩ := List.mem_map.1 ht
  exact at_all hj.2 (h y hy)
theorem Wt_pos {m : gMine} {list : List gJob} (hj : JobsIn m list) {S : List Int} (h : InR list.length S) {k : Int} : 0 ≤ Wt list k S := (SN_rng (jobs_ok hj h)).1
def FitW (m : gMine) (flows : List Int) (list : List gJob) (S : List Int) : Prop := ∀ k : Nat, k < m.Airways.length → Wt list k S ≤ m_impl_abs (at' flows k)
theorem fit_w {m : gMine} {flows : List Int} {list : List gJob} (hj : JobsIn m list) {S : List Int} (h : InR list.length S) (hl : S.length ≤ 1000) : m_impl_Mine_fitJobs m flows (S.map (at' list)) = true ↔ FitW m flows list S := by
  rw [fit_iff (jobs_ok hj h) (by rw [List.length_map]; exact hl)]
  exact ⟨fun h k hk => Int.not_lt.1 (h k hk), fun h k hk => Int.not_lt.2 (h k hk)⟩
theorem FitW.left {m : gMine} {flows : List Int} {list : List gJob} (hj : JobsIn m list) {A B : List Int} (hb : InR list.length B) (h : FitW m flows list (A ++ B)) : FitW m flows list A := fun k hk => by
  have h1 := h k hk
  have h2 := Wt_pos hj hb (k := (k : Int))
  rw [Wt_app] at h1; omega
theorem FitW.comm {m : gMine} {flows : List Int} {list : List gJob} {A B : List Int} (h : FitW m flows list (A ++ B)) : FitW m flows list (B ++ A) := fun k hk => by
  have h1 := h k hk
  rw [Wt_app] at h1 ⊢; omega
theorem abs_nn {x : Int} (h : -100000 ≤ x ∧ x ≤ 100000) : 0 ≤ m_impl_abs x := by
  have hw : IntKind.wrap .i64 (0 - x) = 0 - x := wr64 (by omega)
  unfold m_impl_abs
  rw [hw]
  split <;> omega
theorem FitW.nil {m : gMine} {flows : List Int} {list : List gJob} (hf : FlowsIn m flows) : FitW m flows list [] := fun k hk => by
  have := abs_nn (hf.at (i := (k : Int)) ⟨by omega, by omega⟩)
  simp only [Wt, List.map_nil, SN]; exact this
/-! ### rising lists -/
def Up (lo hi : Int) (T : List Int) : Prop := T.Pairwise (· < ·) ∧ ∀ y ∈ T, lo ≤ y ∧ y < hi
theorem Up.inR {lo hi : Int} {T : List Int} (h : Up lo hi T) (h0 : 0 ≤ lo) : InR hi T := fun y hy => by have := h.2 y hy; omega
theorem Up.cons {lo hi i : Int} {T : List Int} (h : Up (i + 1) hi T) (h1 : lo ≤ i) (h2 : i < hi) : Up lo hi (i :: T) :=
  ⟨List.Pairwise.cons (fun y hy => by have := h.2 y hy; omega) h.1, fun y hy => by
    rcases List.mem_cons.1 hy with e | e
    · omega
    · have := h.2 y e; omega⟩
theorem Up.tail {lo hi i : Int} {T : List Int} (h : Up lo hi (i :: T)) : Up (i + 1) hi T ∧ lo ≤ i ∧ i < hi := by
  have h1 := List.pairwise_cons.1 h.1
  have h2 := h.2 i List.mem_cons_self
  exact ⟨⟨h1.2, fun y hy => by have := h1.1 y hy; have := h.2 y (List.mem_cons_of_mem _ hy); omega⟩, h2⟩
theorem Up.snoc {lo hi i : Int} {T : List Int} (h : Up lo i T) (h1 : lo ≤ i) (h2 : i < hi) : Up lo hi (T ++ ([i] : List Int)) := by
  refine ⟨List.pairwise_append.2 ⟨h.1, List.pairwise_singleton _ _, fun x hx y hy => ?_⟩, fun y hy => ?_⟩
  · rw [List.mem_singleton] at hy; have := h.2 x hx; omega
  · rcases List.mem_append.1 hy with e | e
    · have := h.2 y e; omega
    · rw [List.mem_singleton] at e; omega
theorem Up.mono {lo hi hi' : Int} {T : List Int} (h : Up lo hi T) (h1 : hi ≤ hi') : Up lo hi' T := ⟨h.1, fun y hy => by have := h.2 y hy; omega⟩
theorem Up.nil {lo hi : Int} : Up lo hi [] := ⟨List.Pairwise.nil, fun y hy => absurd hy List.not_mem_nil⟩
theorem up_len : ∀ {lo hi : Int} {T : List Int}, Up lo hi T → lo ≤ hi → (T.length : Int) ≤ hi - lo
  | lo, hi, [], _, h => by simp; omega
  | lo, hi, x :: T, h, hl => by
    have ht := h.tail
    have := up_len ht.1 (by omega)
    simp only [List.length_cons]; omega
/-! ### the most jobs -/
def pw (d : Int) : Int := ((2 ^ d.toNat : Nat) : Int)
theorem pw_succ {d : Int} (h : 0 < d) : pw d = pw (d - 1) + pw (d - 1) := by
  unfold pw
  rw [show d.toNat = (d - 1).toNat + 1 by omega, Nat.pow_succ]
  omega
theorem pw_pos {d : Int} : 1 ≤ pw d := by
  unfold pw
  have : 0 < 2 ^ d.toNat := Nat.pos_pow_of_pos_or_zero d.toNat
  omega
where Nat.pos_pow_of_pos_or_zero (d : Nat) : 0 < 2 ^ d := Nat.pow_pos (by decide)
theorem jobsOf_map (list : List gJob) (S : List Int) : m_impl_jobsOf list S = S.map (at' list) := by
  rw [jobsOf_is]
  have h := list_irange (S.map (at' list))
  rw [List.length_map] at h
  rw [h]
  refine List.map_congr_left fun i hi => ?_
  rw [mem_irange] at hi
  rw [at_map' ⟨hi.1, by omega⟩]
structure VOk (m : gMine) (flows : List Int) (list : List gJob) (B : List Int) : Prop where
  up : Up 0 list.length B
  fit : FitW m flows list B
/-- what a visit has done -/
structure VPost (m : gMine) (flows : List Int) (list : List gJob) (some_ best : List Int) (k b : Int) (s' : gjobSearch) : Prop where
  bud : b - pw (list.length - k) ≤ s'.budget ∧ s'.budget ≤ b
  ok : VOk m flows list best → VOk m flows list s'.best
  len : best.length ≤ s'.best.length
  max : ∀ T, Up k list.length T → FitW m flows list (some_ ++ T) → (some_ ++ T).length ≤ s'.best.length
theorem visit_law {m : gMine} {flows : List Int} {list : List gJob} (hj : JobsIn m list) : ∀ (fuel : Nat) (s : gjobSearch) (k : Int), s.mine = m → s.flows = flows → s.list = list → Up 0 k s.some_ → FitW m flows list s.some_ → 0 ≤ k → k ≤ list.length → ((list.length : Int) - k).toNat < fuel → pw (list.length - k) ≤ s.budget → s.budget ≤ 1000000 →
    VPost m flows list s.some_ s.best k s.budget (m_impl_jobSearch_visit_n fuel s k)
  | 0, _, _, _, _, _, _, _, _, _, h, _, _ => by omega
  | fuel + 1, s, k, em, ef, el, hu, hfit, hk0, hk1, hfu, hb, hbm => by
    have hn := hj.1
    have hp1 := @pw_pos ((list.length : Int) - k)
    have hsl := up_len hu hk0
    rw [m_impl_jobSearch_visit_n]
    simp only [m_impl_jobSearch_visit_body]
    rw [wr64 (n := s.budget - 1) (by omega)]
    have hnb : ¬ s.budget - 1 < 0 := by omega
    simp only [hnb, decide_false, Bool.cond_false, JN]
    have key : ∀ v4 : List Int, (VOk m flows list s.best → VOk m flows list v4) → s.best.length ≤ v4.length → s.some_.length ≤ v4.length →
        VPost m flows list s.some_ s.best k s.budget (LOOP (m_impl_jobSearch_visit_b1 (m_impl_jobSearch_visit_n fuel) s k v4) (fun (x1 : Int × (List Int) × (List Int) × Int) => gjobSearch.mk s.mine s.flows s.list x1.1 x1.2.1 x1.2.2.1) (((s.list.length : Int) - k : Int).toNat + 1) (s.budget - 1, s.some_, v4, k)) := fun v4 g1 g2 g3 => by
      refine LOOP_post (b := m_impl_jobSearch_visit_b1 (m_impl_jobSearch_visit_n fuel) s k v4) (fun (x : Int × (List Int) × (List Int) × Int) => x.2.1 = s.some_ ∧ (k ≤ x.2.2.2 ∧ x.2.2.2 ≤ list.length) ∧ (s.budget - 1 - (pw (list.length - k) - pw (list.length - x.2.2.2)) ≤ x.1 ∧ x.1 ≤ s.budget - 1) ∧ (VOk m flows list s.best → VOk m flows list x.2.2.1) ∧ s.best.length ≤ x.2.2.1.length ∧ s.some_.length ≤ x.2.2.1.length ∧ ∀ y T, Up k list.length (y :: T) → y < x.2.2.2 → FitW m flows list (s.some_ ++ (y :: T)) → (s.some_ ++ (y :: T)).length ≤ x.2.2.1.length)
        (fun x => ((list.length : Int) - x.2.2.2).toNat) (fun _ r => VPost m flows list s.some_ s.best k s.budget r) (fun rec x hI ih => ?_) _ _ ⟨rfl, ⟨by simp, by simp only; omega⟩, ⟨by simp only; omega, by simp⟩, g1, g2, g3, fun y T h1 h2 => by have := h1.2 y List.mem_cons_self; simp only at h2; omega⟩ (by simp only; rw [el]; omega)
      obtain ⟨b, so, be, i⟩ := x
      obtain ⟨e, ⟨hi, hi2⟩, ⟨hb1, hb2⟩, q1, q2, q3, q4⟩ := hI
      simp only at e hi hi2 hb1 hb2 q1 q2 q3 q4
      subst e
      simp only [m_impl_jobSearch_visit_b1, JN]
      have hel : (s.list.length : Int) = list.length := by rw [el]
      rw [hel]
      by_cases hlt : i < (list.length : Int)
      · simp only [hlt, decide_true, Bool.cond_true]
        have hps := @pw_succ ((list.length : Int) - i) (by omega)
        have hp0 := @pw_pos ((list.length : Int) - i - 1)
        have epw : (list.length : Int) - (i + 1) = list.length - i - 1 := by omega
        have hui : Up 0 (i + 1) (s.some_ ++ ([i] : List Int)) := (hu.mono (hi' := i) hi).snoc (by omega) (by omega)
        have hin : InR list.length (s.some_ ++ ([i] : List Int)) := (hui.mono (hi' := list.length) (by omega)).inR (by omega)
        have hlen : (s.some_ ++ ([i] : List Int)).length ≤ 1000 := by simp only [List.length_append, List.length_singleton]; omega
        have hfi := fit_w (flows := flows) hj hin hlen
        rw [em, ef, el, jobsOf_map]
        cases hf : m_impl_Mine_fitJobs m flows ((s.some_ ++ ([i] : List Int)).map (at' list)) with
        | true =>
          simp only [Bool.cond_true]
          have hpo := post_impl_jobSearch_visit fuel (gjobSearch.mk m flows list b (s.some_ ++ ([i] : List Int)) be) (i + 1) (by simp only [List.length_append, List.length_singleton]; omega) (by omega) (by simp only; omega) (by simp only; omega) (by simp only; omega)
          simp only at hpo
          have hrec := visit_law hj fuel (gjobSearch.mk m flows list b (s.some_ ++ ([i] : List Int)) be) (i + 1) rfl rfl rfl hui (hfi.1 hf) (by omega) (by omega) (by omega) (by simp only; rw [epw]; omega) (by simp only; omega)
          simp only at hrec
          generalize m_impl_jobSearch_visit_n fuel (gjobSearch.mk m flows list b (s.some_ ++ ([i] : List Int)) be) (i + 1) = s' at hpo hrec ⊢
          rw [hpo, app_cut (by omega)]
          have hbu := hrec.bud
          rw [epw] at hbu
          have hnb' : ¬ s'.budget < 0 := by omega
          simp only [hnb', decide_false, Bool.cond_false]
          refine ih (s'.budget, s.some_, s'.best, i + 1) ⟨rfl, ⟨by simp only; omega, by simp only; omega⟩, ⟨by simp only; rw [epw]; omega, by simp only; omega⟩, fun h => hrec.ok (q1 h), Nat.le_trans q2 hrec.len, Nat.le_trans q3 hrec.len, fun y T h1 h2 h3 => ?_⟩ (by simp only; omega)
          simp only at h2
          by_cases ey : y = i
          · subst ey
            have := hrec.max T h1.tail.1 (by rw [List.append_assoc]; exact h3)
            simp only [List.length_append, List.length_singleton, List.length_cons] at this ⊢; omega
          · exact Nat.le_trans (q4 y T h1 (by omega) h3) hrec.len
        | false =>
          simp only [Bool.cond_false]
          rw [app_cut (by omega)]
          have hnb' : ¬ b < 0 := by omega
          simp only [hnb', decide_false, Bool.cond_false]
          refine ih (b, s.some_, be, i + 1) ⟨rfl, ⟨by simp only; omega, by simp only; omega⟩, ⟨by simp only; rw [epw]; omega, by simp only; omega⟩, q1, q2, q3, fun y T h1 h2 h3 => ?_⟩ (by simp only; omega)
          simp only at h2
          by_cases ey : y = i
          · subst ey
            exfalso
            have hh : FitW m flows list (s.some_ ++ ([y] : List Int)) := by
              have : s.some_ ++ (y :: T) = (s.some_ ++ ([y] : List Int)) ++ T := by simp
              rw [this] at h3
              exact FitW.left hj (h1.tail.1.inR (by omega)) h3
            rw [hfi.2 hh] at hf; simp at hf
          · exact q4 y T h1 (by omega) h3
      · have he : i = list.length := by omega
        subst he
        simp only [hlt, decide_false, Bool.cond_false]
        have ez : pw ((list.length : Int) - (list.length : Int)) = 1 := by rw [Int.sub_self]; rfl
        rw [ez] at hb1
        refine ⟨⟨by simp only; omega, by simp only; omega⟩, q1, q2, fun T h1 h2 => ?_⟩
        cases T with
        | nil => simp only [List.append_nil]; exact q3
        | cons y T => exact q4 y T h1 (h1.2 y List.mem_cons_self).2 h2
    by_cases hbl : (s.best.length : Int) < (s.some_.length : Int)
    · simp only [hbl, decide_true, Bool.cond_true]
      exact key _ (fun _ => ⟨by simpa [m_slices_Clone_int64] using hu.mono hk1, by simpa [m_slices_Clone_int64] using hfit⟩) (by simp only [m_slices_Clone_int64, List.nil_append]; omega) (by simp [m_slices_Clone_int64])
    · simp only [hbl, decide_false, Bool.cond_false]
      exact key _ id (Nat.le_refl _) (by omega)
theorem budget_imp {budget : Int} (h : m_impl_budgetValid budget = true) : 1 ≤ budget ∧ budget ≤ 20000 := within_imp h

end Go.Proofs.Ytchjibndocnnhaa
