/-
  PLAIN LAWS about the models: no program in sight. Conditions: as each theorem states them.
-/
import Derived.Test.YtchjibndocnnhaaCrewsPlain16
set_option linter.unusedVariables false
set_option linter.unusedSimpArgs false
set_option linter.unusedSectionVars false
set_option linter.unnecessarySimpa false
namespace Go.Proofs.Ytchjibndocnnhaa
open Go Go.RowKit Go.Proofs Go.Proofs.Ytchjibndocnnhaa.E
/-! ## Shifts: what a search leaves when it finds none -/
theorem pre_app {xs : List Int} {y : Int} : pre' (xs ++ ([y] : List Int)) (xs.length : Int) = xs := by
  unfold pre'; rw [Int.toNat_natCast, List.take_left']; rfl
theorem post_impl_shiftSearch_extend : ∀ (fuel : Nat) (s : gshiftSearch) (n u : Int), (s.shifts.length : Int) ≤ s.list.length → ((s.list.length : Int) - s.shifts.length).toNat < fuel → (m_impl_shiftSearch_extend_n fuel s n u).1 = false → (m_impl_shiftSearch_extend_n fuel s n u).2.shifts = s.shifts
  | 0, _, _, _, _, h => by omega
  | fuel + 1, s, n, u, hl, hfu => by
    simp only [m_impl_shiftSearch_extend_n, m_impl_shiftSearch_extend_body]
    by_cases he : (s.shifts.length : Int) = (s.list.length : Int)
    · have : ((s.shifts.length : Int) == (s.list.length : Int)) = true := beq_iff_eq.2 he
      rw [this]; intro h; simp at h
    · have : ((s.shifts.length : Int) == (s.list.length : Int)) = false := beq_eq_false_iff_ne.2 he
      rw [this]
      simp only [Bool.cond_false]
      obtain ⟨E, hE⟩ : ∃ E, (if (IntKind.wrap .i64 (u + 1)) < n then (IntKind.wrap .i64 (u + 1)) else n) = E := ⟨_, rfl⟩
      simp only [hE]
      refine LOOP_post (b := m_impl_shiftSearch_extend_b1 (m_impl_shiftSearch_extend_n fuel) s n u) (fun (x : Int × Int × (List Int)) => x.2.2 = s.shifts) (fun x => (E - x.1).toNat) (fun _ (r : Bool × gshiftSearch) => r.1 = false → r.2.shifts = s.shifts) (fun rec x hI ih => ?_) _ _ rfl (by simp)
      obtain ⟨i, b, sh⟩ := x
      simp only at hI
      subst hI
      simp only [m_impl_shiftSearch_extend_b1, hE]
      by_cases hi : i < E
      · simp only [hi, decide_true, Bool.cond_true]
        rw [impl_jobs (list := s.list) (shifts := s.shifts) (s := i) (fun rec x => rfl)]
        simp only
        cases m_impl_Mine_fitJobs s.mine s.flows (([at' s.list (s.shifts.length : Int)] : List gJob) ++ (idxS s.shifts i).map (at' s.list)) with
        | false => exact ih _ rfl (by simp only; omega)
        | true =>
          simp only [Bool.not_true, Bool.cond_false]
          cases decide ((IntKind.wrap .i64 (b - 1)) < 0) with
          | true => intro _; rfl
          | false =>
            simp only [Bool.cond_false]
            have hp := post_impl_shiftSearch_extend fuel (gshiftSearch.mk s.mine s.flows s.list (IntKind.wrap .i64 (b - 1)) (s.shifts ++ ([i] : List Int))) n (if u < (i + 1) then (i + 1) else u) (by simp only [List.length_append, List.length_cons, List.length_nil]; omega) (by simp only [List.length_append, List.length_cons, List.length_nil]; omega)
            generalize (m_impl_shiftSearch_extend_n fuel (gshiftSearch.mk s.mine s.flows s.list (IntKind.wrap .i64 (b - 1)) (s.shifts ++ ([i] : List Int))) n (if u < (i + 1) then (i + 1) else u)) = q at hp ⊢
            cases hq : q.1 with
            | true => intro h; simp at h
            | false =>
              simp only [Bool.cond_false]
              rw [hp hq]
              simp only
              rw [pre_app]
              cases decide (q.2.budget < 0) with
              | true => intro _; rfl
              | false => exact ih _ rfl (by simp only; omega)
      · simp only [hi, decide_false, Bool.cond_false]; intro _; trivial

end Go.Proofs.Ytchjibndocnnhaa
