/-
  PLAIN LAWS about the models: no program in sight. Conditions: as each theorem states them.
-/
import Derived.Test.YtchjibndocnnhaaCrewsPlain10
set_option linter.unusedVariables false
set_option linter.unusedSimpArgs false
set_option linter.unusedSectionVars false
set_option linter.unnecessarySimpa false
namespace Go.Proofs.Ytchjibndocnnhaa
open Go Go.RowKit Go.Proofs Go.Proofs.Ytchjibndocnnhaa.E
/-! ## Jobs: both models judge alike -/
def JobsIn (m : gMine) (list : List gJob) : Prop := list.length ≤ 12 ∧ ∀ t ∈ list, (0 ≤ t.Airway ∧ t.Airway < m.Airways.length) ∧ 1 ≤ t.People ∧ t.People ≤ 40 ∧ 0 ≤ t.Power ∧ t.Power ≤ 500
theorem job_eq (t : gJob) : m_impl_Job_valid t = m_spec_l23One t := by
  simp only [m_impl_Job_valid, m_spec_l23One, name_eq, within_eq]
theorem one23_imp {t : gJob} (h : m_spec_l23One t = true) : 0 ≤ t.Airway ∧ 1 ≤ t.People ∧ t.People ≤ 40 ∧ 0 ≤ t.Power ∧ t.Power ≤ 500 := by
  simp only [m_spec_l23One, m_spec_l00In, Bool.and_eq_true, decide_eq_true_eq] at h; omega
theorem jobs_eq (m : gMine) (list : List gJob) : m_impl_ValidJobs m list = (m_spec_l04Ok m && m_spec_l23List m list) := by
  simp only [m_impl_ValidJobs, mine_eq, m_spec_l23List]
  refine valid_eq (fun t => m_impl_Job_valid t && m_impl_indexValid_impl_Airway m.Airways t.Airway) (fun t => m_spec_l23One t && !decide ((m.Airways.length : Int) ≤ t.Airway)) (fun t => t.Id) _ (fun rec k i _ => by simp only [m_impl_ValidJobs_b1, Bool.not_and]) (fun rec k i _ => by simp only [m_spec_l23List_b1, Bool.not_and, Bool.not_not]) fun t => ?_
  rw [job_eq, index_eq]
  cases ho : m_spec_l23One t with
  | false => rfl
  | true => have h0 := (one23_imp ho).1; rw [Bool.eq_iff_iff]; simp; omega
theorem l23List_imp {m : gMine} {list : List gJob} (h : m_spec_l23List m list = true) : JobsIn m list := by
  have := valid_imp (fun t => m_spec_l23One t && !decide ((m.Airways.length : Int) ≤ t.Airway)) (fun t => t.Id) (fun rec k i _ => by simp only [m_spec_l23List_b1, Bool.not_and, Bool.not_not]) h
  refine ⟨by omega, fun t ht => ?_⟩
  have h2 := this.2 t ht
  simp only [Bool.and_eq_true, Bool.not_eq_true', decide_eq_false_iff_not] at h2
  have := one23_imp h2.1
  omega
theorem l07Flows_eq (m : gMine) (flows : List Int) : m_spec_l07Flows m flows = m_impl_Mine_hasFlows m flows := by
  rw [Bool.eq_iff_iff, hasFlows_iff]
  exact flows_all (fun rec k i _ => rfl)
theorem jobsCode_eq (m : gMine) (flows : List Int) (list : List gJob) : m_impl_jobsCode m flows list = m_spec_l23Ask m flows list := by
  simp only [m_impl_jobsCode, m_spec_l23Ask, jobs_eq, l07Flows_eq, Bool.not_and]
theorem l23Ask_imp {m : gMine} {flows : List Int} {list : List gJob} (h : m_spec_l23Ask m flows list = 0) : MineIn m ∧ FlowsIn m flows ∧ JobsIn m list := by
  simp only [m_spec_l23Ask, l07Flows_eq] at h
  cases h1 : m_spec_l04Ok m <;> cases h2 : m_spec_l23List m list <;> cases h3 : m_impl_Mine_hasFlows m flows <;> simp [h1, h2, h3] at h
  exact ⟨l04Ok_imp h1, hasFlows_imp h3, l23List_imp h2⟩
theorem jobsCode_imp {m : gMine} {flows : List Int} {list : List gJob} (h : m_impl_jobsCode m flows list = 0) : MineIn m ∧ FlowsIn m flows ∧ JobsIn m list := l23Ask_imp (by rw [← jobsCode_eq]; exact h)
theorem l23Ask_impM {m : gMine} {flows : List Int} {list : List gJob} (h : m_spec_l23Ask m flows list = 0) : MineIn m := (l23Ask_imp h).1
theorem l23Ask_impF {m : gMine} {flows : List Int} {list : List gJob} (h : m_spec_l23Ask m flows list = 0) : FlowsIn m flows := (l23Ask_imp h).2.1
theorem l23Ask_impS {m : gMine} {flows : List Int} {list : List gJob} (h : m_spec_l23Ask m flows list = 0) : JobsIn m list := (l23Ask_imp h).2.2
theorem l23Ask_impJ {m : gMine} {flows : List Int} {list : List gJob} (h : m_spec_l23Ask m flows list = 0) : (1 ≤ m.Junctions ∧ m.Junctions ≤ 16) ∧ m.Airways.length ≤ 24 ∧ flows.length = m.Airways.length ∧ list.length ≤ 12 := ⟨(l23Ask_imp h).1.1, (l23Ask_imp h).1.2.1, (l23Ask_imp h).2.1.1, (l23Ask_imp h).2.2.1⟩
theorem jobsCode_impM {m : gMine} {flows : List Int} {list : List gJob} (h : m_impl_jobsCode m flows list = 0) : MineIn m := (jobsCode_imp h).1
theorem jobsCode_impF {m : gMine} {flows : List Int} {list : List gJob} (h : m_impl_jobsCode m flows list = 0) : FlowsIn m flows := (jobsCode_imp h).2.1
theorem jobsCode_impS {m : gMine} {flows : List Int} {list : List gJob} (h : m_impl_jobsCode m flows list = 0) : JobsIn m list := (jobsCode_imp h).2.2
theorem jobsCode_impJ {m : gMine} {flows : List Int} {list : List gJob} (h : m_impl_jobsCode m flows list = 0) : (1 ≤ m.Junctions ∧ m.Junctions ≤ 16) ∧ m.Airways.length ≤ 24 ∧ flows.length = m.Airways.length ∧ list.length ≤ 12 := l23Ask_impJ (by rw [← jobsCode_eq]; exact h)
theorem JobsIn.at {m : gMine} {list : List gJob} {i : Int} (h : JobsIn m list) (hi : 0 ≤ i ∧ i < list.length) : 0 ≤ (at' list i).Airway ∧ (at' list i).Airway < m.Airways.length := (at_all h.2 hi).1
theorem JobsIn.air {m : gMine} {list : List gJob} (h : JobsIn m list) : ∀ t ∈ list, 0 ≤ t.Airway ∧ t.Airway < m.Airways.length := fun t ht => (h.2 t ht).1
theorem needs_len (m : gMine) (list : List gJob) : (m_impl_Mine_airNeeds m list).length = m.Airways.length := by
  refine LOOP_post (fun (x : List Int × Int) => x.1.length = m.Airways.length) (fun x => ((list.length : Int) - x.2).toNat) (fun _ (r : List Int) => r.length = m.Airways.length) ?_ _ _ (by simp) (by dsimp only; omega)
  intro rec x hx ih
  simp only [m_impl_Mine_airNeeds_b1]
  by_cases hi : x.2 < (list.length : Int)
  · simp only [hi, decide_true, Bool.cond_true]
    exact ih _ (by simp only [put_len]; exact hx) (by dsimp only; omega)
  · simp only [hi, decide_false, Bool.cond_false]; exact hx

end Go.Proofs.Ytchjibndocnnhaa
