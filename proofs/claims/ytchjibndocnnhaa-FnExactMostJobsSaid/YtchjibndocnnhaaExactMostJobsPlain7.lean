/-
  PLAIN LAWS about the models: no program in sight. Conditions: as each theorem states them.
-/
import Derived.Test.YtchjibndocnnhaaExactMostJobsPlain6
set_option linter.unusedVariables false
set_option linter.unusedSimpArgs false
set_option linter.unusedSectionVars false
set_option linter.unnecessarySimpa false
namespace Go.Proofs.Ytchjibndocnnhaa
open Go Go.RowKit Go.Proofs Go.Proofs.Ytchjibndocnnhaa.E
/-! ## MostJobs -/
structure JR (s : gjobSearch) (x : gl23Search) (k : Int) : Prop where
  m : s.mine = x.m_
  f : s.flows = x.flows
  l : s.list = x.list
  so : s.some_ = x.some_
  be : s.best = x.best
  fl : FlowsIn x.m_ x.flows
  b : 0 ≤ s.budget ∧ s.budget = x.budget - x.nodes ∧ 0 ≤ x.nodes ∧ x.budget ≤ 20000
  n : x.list.length ≤ 12
  k : 0 ≤ k ∧ k ≤ x.list.length ∧ (x.some_.length : Int) ≤ k
/-- what a visit ends with: both have the same, or both have gone over the budget -/
def JE (x : gl23Search) (k : Int) (s' : gjobSearch) (x' : gl23Search) : Prop :=
  (s'.best = x'.best ∧ 0 ≤ s'.budget ∧ s'.budget = x.budget - x'.nodes ∧ 0 ≤ x'.nodes) ∨ (s'.budget < 0 ∧ x.budget < x'.nodes ∧ x'.nodes ≤ x.budget + 1 + 12 * (x.list.length - k + 1))
theorem most_over : ∀ (fuel : Nat) (x : gl23Search) (k : Int), x.budget ≤ x.nodes → x.nodes ≤ 1000000 → -1000000 ≤ x.nodes → 0 < fuel → (m_spec_l23Search_most_n fuel x k).nodes = x.nodes + 1
  | 0, _, _, _, _, _, h => by omega
  | fuel + 1, x, k, h1, h2, h3, _ => by
    simp only [m_spec_l23Search_most_n, m_spec_l23Search_most_body]
    rw [wr64 (n := x.nodes + 1) (by omega)]
    have : x.budget < x.nodes + 1 := by omega
    simp only [this, decide_true, Bool.cond_true]
theorem most_rel : ∀ (fuel : Nat) (s : gjobSearch) (x : gl23Search) (k : Int), JR s x k → ((x.list.length : Int) - k).toNat < fuel → JE x k (m_impl_jobSearch_visit_n fuel s k) (m_spec_l23Search_most_n fuel x k)
  | 0, _, _, _, _, h => by omega
  | fuel + 1, s, x, k, hR, hfu => by
    have hb := hR.b
    have hn := hR.n
    have hk := hR.k
    simp only [m_impl_jobSearch_visit_n, m_impl_jobSearch_visit_body, m_spec_l23Search_most_n, m_spec_l23Search_most_body]
    rw [wr64 (n := s.budget - 1) (by omega), wr64 (n := x.nodes + 1) (by omega)]
    by_cases hov : s.budget - 1 < 0
    · have : x.budget < x.nodes + 1 := by omega
      simp only [hov, this, decide_true, Bool.cond_true]
      exact .inr ⟨by simp only; omega, by simp only; omega, by simp only; omega⟩
    · have : ¬ x.budget < x.nodes + 1 := by omega
      simp only [hov, this, decide_false, Bool.cond_false, JN]
      rw [hR.so, hR.be, hR.l, hR.m, hR.f]
      have key : ∀ v4 : List Int, JE x k (LOOP (m_impl_jobSearch_visit_b1 (m_impl_jobSearch_visit_n fuel) s k v4) (fun (x1 : Int × (List Int) × (List Int) × Int) => gjobSearch.mk x.m_ x.flows x.list x1.1 x1.2.1 x1.2.2.1) (((x.list.length : Int) - k : Int).toNat + 1) (s.budget - 1, x.some_, v4, k))
          (LOOP (m_spec_l23Search_most_b1 (m_spec_l23Search_most_n fuel) x k v4) (fun (x1 : (List Int) × (List Int) × Int × Int) => gl23Search.mk x.m_ x.flows x.list x1.1 x1.2.1 x.shifts x.count x1.2.2.1 x.budget) (((x.list.length : Int) - k : Int).toNat + 1) (x.some_, v4, x.nodes + 1, k)) := fun v4 => by
        have h := LOOP_post (b := m_spec_l23Search_most_b1 (m_spec_l23Search_most_n fuel) x k v4) (k := fun (x1 : (List Int) × (List Int) × Int × Int) => gl23Search.mk x.m_ x.flows x.list x1.1 x1.2.1 x.shifts x.count x1.2.2.1 x.budget)
          (fun (y : (List Int) × (List Int) × Int × Int) => y.1 = x.some_ ∧ k ≤ y.2.2.2 ∧ y.2.2.2 ≤ x.list.length ∧ 0 ≤ y.2.2.1 ∧ y.2.2.1 ≤ x.budget + 1 + 12 * (x.list.length - k + 1) - (x.list.length - y.2.2.2)) (fun y => ((x.list.length : Int) - y.2.2.2).toNat)
          (fun y r => (x.budget < y.2.2.1 → x.budget < r.nodes ∧ r.nodes ≤ y.2.2.1 + (x.list.length - y.2.2.2)) ∧ (y.2.2.1 ≤ x.budget → ∀ n, ((x.list.length : Int) - y.2.2.2).toNat < n → JE x k (LOOP (m_impl_jobSearch_visit_b1 (m_impl_jobSearch_visit_n fuel) s k v4) (fun (x1 : Int × (List Int) × (List Int) × Int) => gjobSearch.mk x.m_ x.flows x.list x1.1 x1.2.1 x1.2.2.1) n (x.budget - y.2.2.1, x.some_, y.2.1, y.2.2.2)) r)) (fun rec y hI ih => ?_) (((x.list.length : Int) - k : Int).toNat + 1) (x.some_, v4, x.nodes + 1, k) ⟨rfl, by simp only; omega, by simp only; omega, by simp only; omega, by simp only; omega⟩ (by simp only; omega)
        · have h2 := h.2 (by simp only; omega) (((x.list.length : Int) - k : Int).toNat + 1) (by simp only; omega)
          simp only at h2
          rw [show x.budget - (x.nodes + 1) = s.budget - 1 by omega] at h2
          exact h2
        · obtain ⟨so, be, nd, i⟩ := y
          obtain ⟨e, hi, hi2, hnd, hnd2⟩ := hI
          simp only at e hi hi2 hnd hnd2
          subst e
          simp only at ih ⊢
          simp only [m_spec_l23Search_most_b1, JN]
          by_cases hlt : i < (x.list.length : Int)
          · simp only [hlt, decide_true, Bool.cond_true]
            have hpo := post_spec_l23Search_most fuel (gl23Search.mk x.m_ x.flows x.list (x.some_ ++ ([i] : List Int)) be x.shifts x.count nd x.budget) (i + 1) (by simp only [List.length_append, List.length_cons, List.length_nil]; omega) (by omega) (by simp only; omega) (by simp only; omega) (by simp only; omega)
            simp only at hpo
            rw [hpo, app_cut (by omega)]
            constructor
            · intro hov
              have hov' : x.budget < nd := hov
              cases m_spec_l23Fits x.m_ x.flows x.list (x.some_ ++ ([i] : List Int)) with
              | true =>
                simp only [Bool.cond_true]
                have h9 := most_over fuel (gl23Search.mk x.m_ x.flows x.list (x.some_ ++ ([i] : List Int)) be x.shifts x.count nd x.budget) (i + 1) (by simp only; omega) (by simp only; omega) (by simp only; omega) (by omega)
                simp only at h9
                rw [h9]
                have := (ih (x.some_, (m_spec_l23Search_most_n fuel (gl23Search.mk x.m_ x.flows x.list (x.some_ ++ ([i] : List Int)) be x.shifts x.count nd x.budget) (i + 1)).best, nd + 1, i + 1) ⟨rfl, by simp only; omega, by simp only; omega, by simp only; omega, by simp only; omega⟩ (by simp only; omega)).1 (by simp only; omega)
                simp only at this
                omega
              | false =>
                simp only [Bool.cond_false]
                have := (ih (x.some_, be, nd, i + 1) ⟨rfl, by simp only; omega, by simp only; omega, by simp only; omega, by simp only; omega⟩ (by simp only; omega)).1 (by simp only; omega)
                simp only at this
                omega
            · intro hok n hn1
              have hok' : nd ≤ x.budget := hok
              obtain ⟨n, rfl⟩ : ∃ n', n = n' + 1 := ⟨n - 1, by omega⟩
              rw [LOOP, m_impl_jobSearch_visit_b1]
              simp only [JN]
              rw [hR.l, hR.m, hR.f]
              simp only [hlt, decide_true, Bool.cond_true]
              rw [fits_eq hR.fl]
              cases m_impl_Mine_fitJobs x.m_ x.flows (m_impl_jobsOf x.list (x.some_ ++ ([i] : List Int))) with
              | true =>
                simp only [Bool.cond_true]
                have hpi := post_impl_jobSearch_visit fuel (gjobSearch.mk x.m_ x.flows x.list (x.budget - nd) (x.some_ ++ ([i] : List Int)) be) (i + 1) (by simp only [List.length_append, List.length_cons, List.length_nil]; omega) (by omega) (by simp only; omega) (by simp only; omega) (by simp only; omega)
                simp only at hpi
                rw [hpi, app_cut (by omega)]
                have hrec := most_rel fuel (gjobSearch.mk x.m_ x.flows x.list (x.budget - nd) (x.some_ ++ ([i] : List Int)) be) (gl23Search.mk x.m_ x.flows x.list (x.some_ ++ ([i] : List Int)) be x.shifts x.count nd x.budget) (i + 1) ⟨rfl, rfl, rfl, rfl, rfl, hR.fl, ⟨by simp only; omega, rfl, hnd, hb.2.2.2⟩, hn, by simp only [List.length_append, List.length_cons, List.length_nil]; omega⟩ (by simp only; omega)
                generalize (m_impl_jobSearch_visit_n fuel (gjobSearch.mk x.m_ x.flows x.list (x.budget - nd) (x.some_ ++ ([i] : List Int)) be) (i + 1)) = s' at hrec ⊢
                generalize (m_spec_l23Search_most_n fuel (gl23Search.mk x.m_ x.flows x.list (x.some_ ++ ([i] : List Int)) be x.shifts x.count nd x.budget) (i + 1)) = x' at hrec ⊢
                rcases hrec with ⟨h1, h2, h3, h4⟩ | ⟨h1, h2, h3⟩
                · simp only at h3
                  have hnb : ¬ s'.budget < 0 := by omega
                  simp only [hnb, decide_false, Bool.cond_false]
                  have := (ih (x.some_, x'.best, x'.nodes, i + 1) ⟨rfl, by simp only; omega, by simp only; omega, by simp only; omega, by simp only; omega⟩ (by simp only; omega)).2 (by simp only; omega) n (by simp only; omega)
                  simp only at this
                  rw [h1, h3]
                  exact this
                · simp only at h2 h3
                  simp only [h1, decide_true, Bool.cond_true]
                  have := (ih (x.some_, x'.best, x'.nodes, i + 1) ⟨rfl, by simp only; omega, by simp only; omega, by simp only; omega, by simp only; omega⟩ (by simp only; omega)).1 (by simp only; omega)
                  simp only at this
                  exact .inr ⟨h1, this.1, by omega⟩
              | false =>
                simp only [Bool.cond_false]
                rw [app_cut (by omega)]
                have hnb : ¬ x.budget - nd < 0 := by omega
                simp only [hnb, decide_false, Bool.cond_false]
                have := (ih (x.some_, be, nd, i + 1) ⟨rfl, by simp only; omega, by simp only; omega, by simp only; omega, by simp only; omega⟩ (by simp only; omega)).2 (by simp only; omega) n (by simp only; omega)
                exact this
          · have he : i = x.list.length := by omega
            subst he
            simp only [hlt, decide_false, Bool.cond_false]
            constructor
            · intro hov; omega
            · intro hok n hn1
              obtain ⟨n, rfl⟩ : ∃ n', n = n' + 1 := ⟨n - 1, by omega⟩
              rw [LOOP, m_impl_jobSearch_visit_b1]
              rw [hR.l]
              simp only [hlt, decide_false, Bool.cond_false]
              exact .inl ⟨rfl, by show 0 ≤ x.budget - nd; omega, rfl, hnd⟩
      cases decide ((x.best.length : Int) < (x.some_.length : Int)) with
      | true =>
        simp only [Bool.cond_true]
        exact key _
      | false => exact key _
theorem MostJobs_eq (m : gMine) (flows : List Int) (list : List gJob) (budget : Int) : m_impl_MostJobs m flows list budget = m_spec_MostJobs m flows list budget := by
  simp only [m_impl_MostJobs, m_spec_MostJobs, m_spec_l23Begin, jobsCode_eq, m_impl_budgetValid]
  cases h1 : (m_spec_l23Ask m flows list == 1) with
  | true =>
    have : m_spec_l23Ask m flows list = 1 := by simpa using h1
    simp [this]
  | false =>
    simp only [Bool.cond_false]
    rw [show m_impl_within budget 1 20000 = m_spec_l00In budget 1 20000 from rfl]
    cases hb : m_spec_l00In budget 1 20000 with
    | false => rfl
    | true =>
      simp only [Bool.not_true, Bool.cond_false]
      cases h0 : (m_spec_l23Ask m flows list != 0) with
      | true => rfl
      | false =>
        simp only [Bool.cond_false]
        have h := l23Ask_imp (m := m) (flows := flows) (list := list) (by simpa using h0)
        have hbb := l00In_imp hb
        have hR := most_rel (((list.length : Int) - 0).toNat + 1) (gjobSearch.mk m flows list budget [] []) (gl23Search.mk m flows list [] [] [] 0 0 budget) 0 ⟨rfl, rfl, rfl, rfl, rfl, h.2.1, by simp only; omega, h.2.2.1, by simp⟩ (by simp only; omega)
        show (bif decide ((m_impl_jobSearch_visit_n (((list.length : Int) - 0).toNat + 1) (gjobSearch.mk m flows list budget [] []) 0).budget < 0) then _ else ((m_impl_jobSearch_visit_n (((list.length : Int) - 0).toNat + 1) (gjobSearch.mk m flows list budget [] []) 0).best, _)) = (bif decide (budget < (m_spec_l23Search_most_n (((list.length : Int) - 0).toNat + 1) (gl23Search.mk m flows list [] [] [] 0 0 budget) 0).nodes) then _ else (m_spec_l00Own (m_spec_l23Search_most_n (((list.length : Int) - 0).toNat + 1) (gl23Search.mk m flows list [] [] [] 0 0 budget) 0).best, _))
        rcases hR with ⟨g1, g2, g3, g4⟩ | ⟨g1, g2, g3⟩
        · simp only at g3
          have a1 : ¬ (m_impl_jobSearch_visit_n (((list.length : Int) - 0).toNat + 1) (gjobSearch.mk m flows list budget [] []) 0).budget < 0 := by omega
          have a2 : ¬ budget < (m_spec_l23Search_most_n (((list.length : Int) - 0).toNat + 1) (gl23Search.mk m flows list [] [] [] 0 0 budget) 0).nodes := by omega
          simp only [a1, a2, decide_false, Bool.cond_false]
          rw [g1, m_spec_l00Own, List.nil_append]
        · simp only at g2
          simp only [g1, g2, decide_true, Bool.cond_true]
theorem most_best : ∀ (fuel : Nat) (s : gl23Search) (k : Int), (s.some_.length : Int) ≤ k → 0 ≤ k → s.list.length ≤ 1000 → k ≤ s.list.length → s.best.length ≤ 1000 → ((s.list.length : Int) - k).toNat < fuel → (m_spec_l23Search_most_n fuel s k).best.length ≤ 1000
  | 0, _, _, _, _, _, _, _, h => by omega
  | fuel + 1, s, k, h1, h2, h3, h4, h6, h5 => by
    simp only [m_spec_l23Search_most_n, m_spec_l23Search_most_body]
    cases decide (s.budget < (IntKind.wrap .i64 (s.nodes + 1))) with
    | true => exact h6
    | false =>
      simp only [Bool.cond_false, JN]
      have key : ∀ v4 : List Int, v4.length ≤ 1000 → (LOOP (m_spec_l23Search_most_b1 (m_spec_l23Search_most_n fuel) s k v4) (fun (x1 : (List Int) × (List Int) × Int × Int) => gl23Search.mk s.m_ s.flows s.list x1.1 x1.2.1 s.shifts s.count x1.2.2.1 s.budget) (((s.list.length : Int) - k : Int).toNat + 1) (s.some_, v4, IntKind.wrap .i64 (s.nodes + 1), k)).best.length ≤ 1000 := fun v4 hv => by
        refine LOOP_post (fun (x : (List Int) × (List Int) × Int × Int) => x.1 = s.some_ ∧ k ≤ x.2.2.2 ∧ x.2.1.length ≤ 1000) (fun x => ((s.list.length : Int) - x.2.2.2).toNat) (fun _ (r : gl23Search) => r.best.length ≤ 1000) (fun rec x hI ih => ?_) _ _ ⟨rfl, by simp, hv⟩ (by simp)
        obtain ⟨so, be, nd, i⟩ := x
        obtain ⟨e, hi, hbe⟩ := hI
        simp only at e hi hbe
        subst e
        simp only [m_spec_l23Search_most_b1, JN]
        by_cases hlt : i < (s.list.length : Int)
        · simp only [hlt, decide_true, Bool.cond_true]
          cases m_spec_l23Fits s.m_ s.flows s.list (s.some_ ++ ([i] : List Int)) with
          | true =>
            simp only [Bool.cond_true]
            rw [post_spec_l23Search_most fuel (gl23Search.mk s.m_ s.flows s.list (s.some_ ++ ([i] : List Int)) be s.shifts s.count nd s.budget) (i + 1) (by simp only [List.length_append, List.length_cons, List.length_nil]; omega) (by omega) h3 (by simp only; omega) (by simp only; omega), app_cut (by omega)]
            exact ih _ ⟨rfl, by simp only; omega, most_best fuel _ (i + 1) (by simp only [List.length_append, List.length_cons, List.length_nil]; omega) (by omega) h3 (by simp only; omega) hbe (by simp only; omega)⟩ (by simp only; omega)
          | false =>
            simp only [Bool.cond_false]
            rw [app_cut (by omega)]
            exact ih _ ⟨rfl, by simp only; omega, hbe⟩ (by simp only; omega)
        · simp only [hlt, decide_false, Bool.cond_false]; exact hbe
      cases decide ((s.best.length : Int) < (s.some_.length : Int)) with
      | true => exact key _ (by rw [m_spec_l00Own, List.nil_append]; omega)
      | false => exact key _ h6
theorem MostJobs_len (m : gMine) (flows : List Int) (list : List gJob) (budget : Int) : (m_spec_MostJobs m flows list budget).1.length ≤ 1048576 := by
  simp only [m_spec_MostJobs]
  cases h0 : (m_spec_l23Begin m flows list budget != 0) with
  | true => simp
  | false =>
    simp only [Bool.cond_false]
    cases decide (budget < (m_spec_l23Search_most (gl23Search.mk m flows list ([] : List Int) ([] : List Int) [] 0 0 budget) 0).nodes) with
    | true => simp
    | false =>
      have hl : list.length ≤ 12 := by
        have hz : m_spec_l23Begin m flows list budget = 0 := by simpa using h0
        simp only [m_spec_l23Begin] at hz
        cases h1 : (m_spec_l23Ask m flows list == 1) with
        | true => rw [h1] at hz; simp at h1; simp [h1] at hz
        | false =>
          rw [h1] at hz
          cases hb : m_spec_l00In budget 1 20000 with
          | false => rw [hb] at hz; simp at hz
          | true => rw [hb] at hz; exact (l23Ask_imp (by simpa using hz)).2.2.1
      simp only [Bool.cond_false, m_spec_l00Own, List.nil_append]
      have := most_best (((list.length : Int) - 0).toNat + 1) (gl23Search.mk m flows list [] [] [] 0 0 budget) 0 (by simp) (by omega) (by simp only; omega) (by simp only; omega) (by simp) (by simp only; omega)
      exact Nat.le_trans this (by omega)

end Go.Proofs.Ytchjibndocnnhaa
