/-
  PLAIN LAWS about the models: no program in sight. Conditions: as each theorem states them.
-/
import Derived.Test.YtchjibndocnnhaaCrewsPlain11
set_option linter.unusedVariables false
set_option linter.unusedSimpArgs false
set_option linter.unusedSectionVars false
set_option linter.unnecessarySimpa false
namespace Go.Proofs.Ytchjibndocnnhaa
open Go Go.RowKit Go.Proofs Go.Proofs.Ytchjibndocnnhaa.E
/-! ## Some jobs of a list -/
theorem jobsOf_is (list : List gJob) (some_ : List Int) : m_impl_jobsOf list some_ = (irange 0 some_.length).map (fun i => at' list (at' some_ i)) := by
  have h := LOOP_fori (b := m_impl_jobsOf_b1 list some_) (k := fun x => x.1) (n := (some_.length : Int)) (fun i xs => xs ++ [at' list (at' some_ i)]) (fun rec xs i h0 h1 => by
    simp only [m_impl_jobsOf_b1, h1, decide_true, Bool.cond_true]) (fun rec xs => by simp [m_impl_jobsOf_b1]) (((some_.length : Int) - 0 : Int).toNat + 1) 0 [] (by omega) (by omega) (by omega)
  simp only [m_impl_jobsOf]
  rw [h, fori_map]
  simp
theorem jobsOf_len (list : List gJob) (some_ : List Int) : (m_impl_jobsOf list some_).length = some_.length := by
  rw [jobsOf_is]; simp [irange_len]
theorem jobsOf_all {list : List gJob} {some_ : List Int} {Q : gJob → Prop} (hQ : ∀ t ∈ list, Q t) (hs : ∀ y ∈ some_, 0 ≤ y ∧ y < list.length) : ∀ t ∈ m_impl_jobsOf list some_, Q t := by
  rw [jobsOf_is]
  intro t ht
  obtain ⟨i, hi, rfl⟩ := List.mem_map.1 ht
  rw [mem_irange] at hi
  exact at_all hQ (at_all hs ⟨by omega, by omega⟩)
theorem needs_some (m : gMine) (list : List gJob) (some_ : List Int) : m_spec_l23Needs m list some_ = m_impl_Mine_airNeeds m (m_impl_jobsOf list some_) := by
  refine LOOP_sim (fun x y => x = y ∧ 0 ≤ x.2) (fun (x : List Int × Int) => ((some_.length : Int) - x.2).toNat) (fun x => ((some_.length : Int) - x.2).toNat) ?_ _ _ _ _ ⟨rfl, by dsimp only; omega⟩ (by dsimp only; omega) (by rw [jobsOf_len]; dsimp only; omega)
  rintro rec1 rec1' ⟨xs, i⟩ _ ⟨rfl, hi0⟩ hrec
  dsimp only at hi0 hrec
  simp only [m_spec_l23Needs_b1, m_impl_Mine_airNeeds_b1, jobsOf_len]
  by_cases hi : i < (some_.length : Int)
  · simp only [hi, decide_true, Bool.cond_true]
    have e : at' (m_impl_jobsOf list some_) i = at' list (at' some_ i) := by rw [jobsOf_is, at_irange0 hi0 hi]
    rw [e]
    exact hrec _ _ ⟨rfl, by dsimp only; omega⟩ (by dsimp only; omega) (by dsimp only; omega)
  · simp only [hi, decide_false, Bool.cond_false]
theorem fits_eq {m : gMine} {flows : List Int} (hf : FlowsIn m flows) (list : List gJob) (some_ : List Int) : m_spec_l23Fits m flows list some_ = m_impl_Mine_fitJobs m flows (m_impl_jobsOf list some_) := by
  have hl := hf.1
  refine LOOP_sim (fun x y => x = y) (fun (x : Int) => ((m.Airways.length : Int) - x).toNat) (fun x => ((m.Airways.length : Int) - x).toNat) ?_ _ _ _ _ rfl (by omega) (by rw [needs_len]; omega)
  rintro rec1 rec1' i _ rfl hrec
  simp only [m_spec_l23Fits_b1, m_impl_Mine_fitJobs_b1, needs_some, needs_len, abs_eq, hl]
  by_cases hi : i < (m.Airways.length : Int)
  · simp only [hi, decide_true, Bool.cond_true]
    cases decide (m_spec_l03Abs (at' flows i) < at' (m_impl_Mine_airNeeds m (m_impl_jobsOf list some_)) i)
    · exact hrec _ _ rfl (by omega) (by omega)
    · rfl
  · simp only [hi, decide_false, Bool.cond_false]

end Go.Proofs.Ytchjibndocnnhaa
