/-
  PLAIN LAWS about the models: no program in sight. Conditions: as each theorem states them.
-/
import Derived.Test.YtchjibndocnnhaaCrewsPlain17
set_option linter.unusedVariables false
set_option linter.unusedSimpArgs false
set_option linter.unusedSectionVars false
set_option linter.unnecessarySimpa false
namespace Go.Proofs.Ytchjibndocnnhaa
open Go Go.RowKit Go.Proofs Go.Proofs.Ytchjibndocnnhaa.E
/-! ## Shifts: a search never gives budget back -/
theorem extend_loop {s : gshiftSearch} {n u : Int} (fuel : Nat) (hl : s.shifts.length < s.list.length) (hfu : ((s.list.length : Int) - s.shifts.length).toNat < fuel + 1)
    (hm : ∀ (s' : gshiftSearch) (u' : Int), s'.list = s.list → (s'.shifts.length : Int) = s.shifts.length + 1 → 0 ≤ s'.budget → s'.budget ≤ 1000000 → (m_impl_shiftSearch_extend_n fuel s' n u').2.budget ≤ s'.budget)
    {E : Int} (hE : (if (IntKind.wrap .i64 (u + 1)) < n then (IntKind.wrap .i64 (u + 1)) else n) = E) (f : Nat) (x : Int × Int × List Int) (h1 : x.2.2 = s.shifts) (h2 : 0 ≤ x.2.1 ∧ x.2.1 ≤ 1000000) (h3 : (E - x.1).toNat < f) :
    (LOOP (m_impl_shiftSearch_extend_b1 (m_impl_shiftSearch_extend_n fuel) s n u) (fun (x1 : Int × Int × (List Int)) => (false, gshiftSearch.mk s.mine s.flows s.list x1.2.1 x1.2.2)) f x).2.budget ≤ x.2.1 := by
  refine LOOP_post (b := m_impl_shiftSearch_extend_b1 (m_impl_shiftSearch_extend_n fuel) s n u) (fun (x : Int × Int × (List Int)) => x.2.2 = s.shifts ∧ 0 ≤ x.2.1 ∧ x.2.1 ≤ 1000000) (fun x => (E - x.1).toNat) (fun x (r : Bool × gshiftSearch) => r.2.budget ≤ x.2.1) (fun rec x hI ih => ?_) f x ⟨h1, h2⟩ h3
  obtain ⟨i, b, sh⟩ := x
  obtain ⟨e, hb0, hb1⟩ := hI
  simp only at e hb0 hb1
  subst e
  simp only [m_impl_shiftSearch_extend_b1, hE]
  by_cases hi : i < E
  · simp only [hi, decide_true, Bool.cond_true]
    rw [impl_jobs (list := s.list) (shifts := s.shifts) (s := i) (fun rec x => rfl)]
    simp only
    cases m_impl_Mine_fitJobs s.mine s.flows (([at' s.list (s.shifts.length : Int)] : List gJob) ++ (idxS s.shifts i).map (at' s.list)) with
    | false => exact ih (i + 1, b, s.shifts) ⟨rfl, hb0, hb1⟩ (by simp only; omega)
    | true =>
      simp only [Bool.not_true, Bool.cond_false]
      rw [wr64 (n := b - 1) (by omega)]
      by_cases hov : b - 1 < 0
      · simp only [hov, decide_true, Bool.cond_true]; omega
      · simp only [hov, decide_false, Bool.cond_false]
        have hp := post_impl_shiftSearch_extend fuel (gshiftSearch.mk s.mine s.flows s.list (b - 1) (s.shifts ++ ([i] : List Int))) n (if u < (i + 1) then (i + 1) else u) (by simp only [List.length_append, List.length_cons, List.length_nil]; omega) (by simp only [List.length_append, List.length_cons, List.length_nil]; omega)
        have hq := hm (gshiftSearch.mk s.mine s.flows s.list (b - 1) (s.shifts ++ ([i] : List Int))) (if u < (i + 1) then (i + 1) else u) rfl (by simp) (by simp only; omega) (by simp only; omega)
        simp only at hq
        generalize (m_impl_shiftSearch_extend_n fuel (gshiftSearch.mk s.mine s.flows s.list (b - 1) (s.shifts ++ ([i] : List Int))) n (if u < (i + 1) then (i + 1) else u)) = q at hp hq ⊢
        cases hr : q.1 with
        | true => simp only [Bool.cond_true]; omega
        | false =>
          simp only [Bool.cond_false]
          rw [hp hr]
          simp only
          rw [pre_app]
          by_cases hov2 : q.2.budget < 0
          · simp only [hov2, decide_true, Bool.cond_true]; omega
          · simp only [hov2, decide_false, Bool.cond_false]
            have := ih (i + 1, q.2.budget, s.shifts) ⟨rfl, by simp only; omega, by simp only; omega⟩ (by simp only; omega)
            simp only at this
            omega
  · simp only [hi, decide_false, Bool.cond_false]; exact Int.le_refl _
theorem extend_mono : ∀ (fuel : Nat) (s : gshiftSearch) (n u : Int), 0 ≤ s.budget → s.budget ≤ 1000000 → (s.shifts.length : Int) ≤ s.list.length → ((s.list.length : Int) - s.shifts.length).toNat < fuel → (m_impl_shiftSearch_extend_n fuel s n u).2.budget ≤ s.budget
  | 0, _, _, _, _, _, _, h => by omega
  | fuel + 1, s, n, u, hb0, hb1, hl, hfu => by
    simp only [m_impl_shiftSearch_extend_n, m_impl_shiftSearch_extend_body]
    by_cases he : (s.shifts.length : Int) = (s.list.length : Int)
    · have : ((s.shifts.length : Int) == (s.list.length : Int)) = true := beq_iff_eq.2 he
      rw [this]; exact Int.le_refl _
    · have : ((s.shifts.length : Int) == (s.list.length : Int)) = false := beq_eq_false_iff_ne.2 he
      rw [this]
      simp only [Bool.cond_false]
      exact extend_loop fuel (by omega) hfu (fun s' u' h1 h2 h3 h4 => extend_mono fuel s' n u' h3 h4 (by rw [h1]; omega) (by rw [h1]; omega)) rfl _ (0, s.budget, s.shifts) rfl ⟨hb0, hb1⟩ (by simp only; omega)
/-- with one shift or more, a search that finds none has used some budget -/
theorem extend_prog {fuel : Nat} {s : gshiftSearch} {n u : Int} (hb : 0 ≤ s.budget ∧ s.budget ≤ 1000000) (hs : s.shifts = []) (hl : 0 < s.list.length) (hfu : s.list.length < fuel + 1) (hn : 1 ≤ n) (hu : 0 ≤ u ∧ u ≤ 1000000) (hf : m_impl_Mine_fitJobs s.mine s.flows ([at' s.list 0] : List gJob) = true) (hr : (m_impl_shiftSearch_extend_n (fuel + 1) s n u).1 = false) : (m_impl_shiftSearch_extend_n (fuel + 1) s n u).2.budget < s.budget := by
  revert hr
  simp only [m_impl_shiftSearch_extend_n, m_impl_shiftSearch_extend_body]
  have hl0 : s.shifts.length = 0 := by rw [hs]; rfl
  have : ((s.shifts.length : Int) == (s.list.length : Int)) = false := beq_eq_false_iff_ne.2 (by omega)
  rw [this]
  simp only [Bool.cond_false]
  obtain ⟨E, hE⟩ : ∃ E, (if (IntKind.wrap .i64 (u + 1)) < n then (IntKind.wrap .i64 (u + 1)) else n) = E := ⟨_, rfl⟩
  have hE1 : 1 ≤ E := by rw [← hE, wr64 (by omega)]; split <;> omega
  rw [hE, LOOP, m_impl_shiftSearch_extend_b1]
  simp only [hE]
  have h0 : (0 : Int) < E := by omega
  simp only [h0, decide_true, Bool.cond_true]
  rw [impl_jobs (list := s.list) (shifts := s.shifts) (s := 0) (fun rec x => rfl)]
  simp only
  have e1 : (([at' s.list (s.shifts.length : Int)] : List gJob) ++ (idxS s.shifts 0).map (at' s.list)) = ([at' s.list 0] : List gJob) := by rw [hs]; rfl
  rw [e1, hf]
  simp only [Bool.not_true, Bool.cond_false]
  rw [wr64 (n := s.budget - 1) (by omega)]
  have hmono := fun (s' : gshiftSearch) (u' : Int) (h1 : s'.list = s.list) (h2 : (s'.shifts.length : Int) = s.shifts.length + 1) (h3 : 0 ≤ s'.budget) (h4 : s'.budget ≤ 1000000) => extend_mono fuel s' n u' h3 h4 (by rw [h1]; omega) (by rw [h1]; omega)
  by_cases hov : s.budget - 1 < 0
  · simp only [hov, decide_true, Bool.cond_true]; intro _; omega
  · simp only [hov, decide_false, Bool.cond_false]
    have hp := post_impl_shiftSearch_extend fuel (gshiftSearch.mk s.mine s.flows s.list (s.budget - 1) (s.shifts ++ ([0] : List Int))) n (if u < (0 + 1) then (0 + 1) else u) (by simp only [List.length_append, List.length_cons, List.length_nil]; omega) (by simp only [List.length_append, List.length_cons, List.length_nil]; omega)
    have hq := hmono (gshiftSearch.mk s.mine s.flows s.list (s.budget - 1) (s.shifts ++ ([0] : List Int))) (if u < (0 + 1) then (0 + 1) else u) rfl (by simp) (by simp only; omega) (by simp only; omega)
    simp only at hq
    generalize (m_impl_shiftSearch_extend_n fuel (gshiftSearch.mk s.mine s.flows s.list (s.budget - 1) (s.shifts ++ ([0] : List Int))) n (if u < (0 + 1) then (0 + 1) else u)) = q at hp hq ⊢
    cases hr : q.1 with
    | true => intro h; simp at h
    | false =>
      simp only [Bool.cond_false]
      rw [hp hr]
      simp only
      rw [pre_app]
      by_cases hov2 : q.2.budget < 0
      · simp only [hov2, decide_true, Bool.cond_true]; intro _; omega
      · simp only [hov2, decide_false, Bool.cond_false]
        intro _
        have := extend_loop (s := s) (n := n) (u := u) fuel (by omega) (by omega) hmono hE ((E - 0 : Int).toNat) (0 + 1, q.2.budget, s.shifts) rfl ⟨by simp only; omega, by simp only; omega⟩ (by simp only; omega)
        simp only at this
        omega

end Go.Proofs.Ytchjibndocnnhaa
