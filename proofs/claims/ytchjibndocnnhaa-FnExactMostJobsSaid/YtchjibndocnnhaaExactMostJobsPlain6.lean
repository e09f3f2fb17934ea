/-
  PLAIN LAWS about the models: no program in sight. Conditions: as each theorem states them.
-/
import Derived.Test.YtchjibndocnnhaaExactMostJobsPlain5
set_option linter.unusedVariables false
set_option linter.unusedSimpArgs false
set_option linter.unusedSectionVars false
set_option linter.unnecessarySimpa false
namespace Go.Proofs.Ytchjibndocnnhaa
open Go Go.RowKit Go.Proofs Go.Proofs.Ytchjibndocnnhaa.E
/-! ## The most jobs: both searches go the same way -/
theorem app_cut {xs : List Int} {y : Int} (h : (xs.length : Int) ≤ 1000000) : pre' (xs ++ ([y] : List Int)) (IntKind.wrap .i64 (((xs ++ ([y] : List Int)).length : Int) - 1)) = xs := by
  rw [List.length_append, List.length_cons, List.length_nil, wr64 (by omega)]
  unfold pre'
  rw [show (((xs.length + (0 + 1) : Nat) : Int) - 1).toNat = xs.length by omega, List.take_left']
  rfl
theorem post_impl_jobSearch_visit : ∀ (fuel : Nat) (s : gjobSearch) (k : Int), (s.some_.length : Int) ≤ k → 0 ≤ k → s.list.length ≤ 1000 → k ≤ s.list.length → ((s.list.length : Int) - k).toNat < fuel → (m_impl_jobSearch_visit_n fuel s k).some_ = s.some_
  | 0, _, _, _, _, _, _, h => by omega
  | fuel + 1, s, k, h1, h2, h3, h4, h5 => by
    simp only [m_impl_jobSearch_visit_n, m_impl_jobSearch_visit_body]
    cases decide ((IntKind.wrap .i64 (s.budget - 1)) < 0) with
    | true => rfl
    | false =>
      simp only [Bool.cond_false, JN]
      have key : ∀ v4 : List Int, (LOOP (m_impl_jobSearch_visit_b1 (m_impl_jobSearch_visit_n fuel) s k v4) (fun (x1 : Int × (List Int) × (List Int) × Int) => gjobSearch.mk s.mine s.flows s.list x1.1 x1.2.1 x1.2.2.1) (((s.list.length : Int) - k : Int).toNat + 1) (IntKind.wrap .i64 (s.budget - 1), s.some_, v4, k)).some_ = s.some_ := fun v4 => by
        refine LOOP_post (fun (x : Int × (List Int) × (List Int) × Int) => x.2.1 = s.some_ ∧ k ≤ x.2.2.2) (fun x => ((s.list.length : Int) - x.2.2.2).toNat) (fun _ (r : gjobSearch) => r.some_ = s.some_) (fun rec x hI ih => ?_) _ _ ⟨rfl, by simp⟩ (by simp)
        obtain ⟨b, so, be, i⟩ := x
        obtain ⟨e, hi⟩ := hI
        simp only at e hi
        subst e
        simp only [m_impl_jobSearch_visit_b1, JN]
        by_cases hlt : i < (s.list.length : Int)
        · simp only [hlt, decide_true, Bool.cond_true]
          have fin : ∀ (b' : Int) (be' : List Int), (bif decide (b' < 0) then gjobSearch.mk s.mine s.flows s.list b' (pre' (s.some_ ++ ([i] : List Int)) (IntKind.wrap .i64 (((s.some_ ++ ([i] : List Int)).length : Int) - 1))) be' else rec (b', pre' (s.some_ ++ ([i] : List Int)) (IntKind.wrap .i64 (((s.some_ ++ ([i] : List Int)).length : Int) - 1)), be', i + 1)).some_ = s.some_ := fun b' be' => by
            rw [app_cut (by omega)]
            cases decide (b' < 0) with
            | true => rfl
            | false => exact ih _ ⟨rfl, by simp only; omega⟩ (by simp only; omega)
          cases m_impl_Mine_fitJobs s.mine s.flows (m_impl_jobsOf s.list (s.some_ ++ ([i] : List Int))) with
          | true =>
            simp only [Bool.cond_true]
            rw [post_impl_jobSearch_visit fuel (gjobSearch.mk s.mine s.flows s.list b (s.some_ ++ ([i] : List Int)) be) (i + 1) (by simp only [List.length_append, List.length_cons, List.length_nil]; omega) (by omega) h3 (by simp only; omega) (by simp only; omega)]
            exact fin _ _
          | false => exact fin _ _
        · simp only [hlt, decide_false, Bool.cond_false]
      cases decide ((s.best.length : Int) < (s.some_.length : Int)) <;> exact key _
theorem post_spec_l23Search_most : ∀ (fuel : Nat) (s : gl23Search) (k : Int), (s.some_.length : Int) ≤ k → 0 ≤ k → s.list.length ≤ 1000 → k ≤ s.list.length → ((s.list.length : Int) - k).toNat < fuel → (m_spec_l23Search_most_n fuel s k).some_ = s.some_
  | 0, _, _, _, _, _, _, h => by omega
  | fuel + 1, s, k, h1, h2, h3, h4, h5 => by
    simp only [m_spec_l23Search_most_n, m_spec_l23Search_most_body]
    cases decide (s.budget < (IntKind.wrap .i64 (s.nodes + 1))) with
    | true => rfl
    | false =>
      simp only [Bool.cond_false, JN]
      have key : ∀ v4 : List Int, (LOOP (m_spec_l23Search_most_b1 (m_spec_l23Search_most_n fuel) s k v4) (fun (x1 : (List Int) × (List Int) × Int × Int) => gl23Search.mk s.m_ s.flows s.list x1.1 x1.2.1 s.shifts s.count x1.2.2.1 s.budget) (((s.list.length : Int) - k : Int).toNat + 1) (s.some_, v4, IntKind.wrap .i64 (s.nodes + 1), k)).some_ = s.some_ := fun v4 => by
        refine LOOP_post (fun (x : (List Int) × (List Int) × Int × Int) => x.1 = s.some_ ∧ k ≤ x.2.2.2) (fun x => ((s.list.length : Int) - x.2.2.2).toNat) (fun _ (r : gl23Search) => r.some_ = s.some_) (fun rec x hI ih => ?_) _ _ ⟨rfl, by simp⟩ (by simp)
        obtain ⟨so, be, nd, i⟩ := x
        obtain ⟨e, hi⟩ := hI
        simp only at e hi
        subst e
        simp only [m_spec_l23Search_most_b1, JN]
        by_cases hlt : i < (s.list.length : Int)
        · simp only [hlt, decide_true, Bool.cond_true]
          have fin : ∀ (be' : List Int) (nd' : Int), (rec (pre' (s.some_ ++ ([i] : List Int)) (IntKind.wrap .i64 (((s.some_ ++ ([i] : List Int)).length : Int) - 1)), be', nd', i + 1)).some_ = s.some_ := fun be' nd' => by
            rw [app_cut (by omega)]
            exact ih _ ⟨rfl, by simp only; omega⟩ (by simp only; omega)
          cases m_spec_l23Fits s.m_ s.flows s.list (s.some_ ++ ([i] : List Int)) with
          | true =>
            simp only [Bool.cond_true]
            rw [post_spec_l23Search_most fuel (gl23Search.mk s.m_ s.flows s.list (s.some_ ++ ([i] : List Int)) be s.shifts s.count nd s.budget) (i + 1) (by simp only [List.length_append, List.length_cons, List.length_nil]; omega) (by omega) h3 (by simp only; omega) (by simp only; omega)]
            exact fin _ _
          | false => exact fin _ _
        · simp only [hlt, decide_false, Bool.cond_false]
      cases decide ((s.best.length : Int) < (s.some_.length : Int)) <;> exact key _
theorem l23Begin_imp {m : gMine} {flows : List Int} {list : List gJob} {budget : Int} (h : m_spec_l23Begin m flows list budget = 0) : m_spec_l23Ask m flows list = 0 := by
  simp only [m_spec_l23Begin] at h
  cases h1 : (m_spec_l23Ask m flows list == 1) with
  | true => rw [h1] at h; simp at h1; simp [h1] at h
  | false =>
    rw [h1] at h
    cases hb : m_spec_l00In budget 1 20000 with
    | false => rw [hb] at h; simp at h
    | true => rw [hb] at h; simpa using h
theorem l23Begin_impM {m : gMine} {flows : List Int} {list : List gJob} {budget : Int} (h : m_spec_l23Begin m flows list budget = 0) : MineIn m := l23Ask_impM (l23Begin_imp h)
theorem l23Begin_impF {m : gMine} {flows : List Int} {list : List gJob} {budget : Int} (h : m_spec_l23Begin m flows list budget = 0) : FlowsIn m flows := l23Ask_impF (l23Begin_imp h)
theorem l23Begin_impS {m : gMine} {flows : List Int} {list : List gJob} {budget : Int} (h : m_spec_l23Begin m flows list budget = 0) : JobsIn m list := l23Ask_impS (l23Begin_imp h)
theorem l23Begin_impJ {m : gMine} {flows : List Int} {list : List gJob} {budget : Int} (h : m_spec_l23Begin m flows list budget = 0) : (1 ≤ m.Junctions ∧ m.Junctions ≤ 16) ∧ m.Airways.length ≤ 24 ∧ flows.length = m.Airways.length ∧ list.length ≤ 12 := l23Ask_impJ (l23Begin_imp h)

end Go.Proofs.Ytchjibndocnnhaa
