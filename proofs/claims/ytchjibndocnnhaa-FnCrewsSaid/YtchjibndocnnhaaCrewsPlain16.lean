/-
  PLAIN LAWS about the models: no program in sight. Conditions: as each theorem states them.
-/
import Derived.Test.YtchjibndocnnhaaCrewsPlain15
set_option linter.unusedVariables false
set_option linter.unusedSimpArgs false
set_option linter.unusedSectionVars false
set_option linter.unnecessarySimpa false
namespace Go.Proofs.Ytchjibndocnnhaa
open Go Go.RowKit Go.Proofs Go.Proofs.Ytchjibndocnnhaa.E
/-! ## The most jobs: both searches go the same way -/
theorem post_impl_jobSearch_visit : ∀ (fuel : Nat) (s : gjobSearch) (k : Int), (s.some_.length : Int) ≤ k → 0 ≤ k → s.list.length ≤ 1000 → k ≤ s.list.length → ((s.list.length : Int) - k).toNat < fuel → (m_impl_jobSearch_visit_n fuel s k).some_ = s.some_
  | 0, _, _, _, _, _, _, h => by omega
  | fuel + 1, s, k, h1, h2, h3, h4, h5 => by
    simp only [m_impl_jobSearch_visit_n, m_impl_jobSearch_visit_body]
    cases decide ((IntKind.wrap .i64 (s.budget - 1)) < 0) with
    | true => rfl
    | false =>
      simp only [Bool.cond_false, JN]
      have key : ∀ v4 : List Int, (LOOP (m_impl_jobSearch_visit_b1 (m_impl_jobSearch_visit_n fuel) s k v4) (fun (x1 : Int × (List Int) × (List Int) × Int) => gjobSearch.mk s.mine s.flows s.list x1.1 x1.2.1 x1.2.2.1) (((s.list.length : Int) - k : Int).toNat + 1) (IntKind.wrap .i64 (s.budget - 1), s.some_, v4, k)).some_ = s.some_ := fun v4 => by
        refine LOOP_post (fun (x : Int × (List Int) × (List Int) × Int) => x.2.1 = s.some_ ∧ k ≤ x.2.2.2) (fun x => ((s.list.length : Int) - x.2.2.2).toNat) (fun _ (r : gjobSearch) => r.some_ = s.some_) (fun rec x hI ih => ?_) _ _ ⟨rfl, by simp⟩ (by simp)
        obtain ⟨b, so, be, i⟩ := x
        obtain ⟨e, hi⟩ := hI
        simp only at e hi
        subst e
        simp only [m_impl_jobSearch_visit_b1, JN]
        by_cases hlt : i < (s.list.length : Int)
        · simp only [hlt, decide_true, Bool.cond_true]
          have fin : ∀ (b' : Int) (be' : List Int), (bif decide (b' < 0) then gjobSearch.mk s.mine s.flows s.list b' (pre' (s.some_ ++ ([i] : List Int)) (IntKind.wrap .i64 (((s.some_ ++ ([i] : List Int)).length : Int) - 1))) be' else rec (b', pre' (s.some_ ++ ([i] : List Int)) (IntKind.wrap .i64 (((s.some_ ++ ([i] : List Int)).length : Int) - 1)), be', i + 1)).some_ = s.some_ := fun b' be' => by
            rw [app_cut (by omega)]
            cases decide (b' < 0) with
            | true => rfl
            | false => exact ih _ ⟨rfl, by simp only; omega⟩ (by simp only; omega)
          cases m_impl_Mine_fitJobs s.mine s.flows (m_impl_jobsOf s.list (s.some_ ++ ([i] : List Int))) with
          | true =>
            simp only [Bool.cond_true]
            rw [post_impl_jobSearch_visit fuel (gjobSearch.mk s.mine s.flows s.list b (s.some_ ++ ([i] : List Int)) be) (i + 1) (by simp only [List.length_append, List.length_cons, List.length_nil]; omega) (by omega) h3 (by simp only; omega) (by simp only; omega)]
            exact fin _ _
          | false => exact fin _ _
        · simp only [hlt, decide_false, Bool.cond_false]
      cases decide ((s.best.length : Int) < (s.some_.length : Int)) <;> exact key _

end Go.Proofs.Ytchjibndocnnhaa
