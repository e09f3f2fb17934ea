/-
  PLAIN LAWS about the models: no program in sight. Conditions: as each theorem states them.
-/
import Derived.Test.YtchjibndocnnhaaCrewsPlain19
set_option linter.unusedVariables false
set_option linter.unusedSimpArgs false
set_option linter.unusedSectionVars false
set_option linter.unnecessarySimpa false
namespace Go.Proofs.Ytchjibndocnnhaa
open Go Go.RowKit Go.Proofs Go.Proofs.Ytchjibndocnnhaa.E
/-! ## FewestShifts: rounds -/
theorem cont_imp {m : gMine} {flows : List Int} {list : List gJob} (h : m_slices_ContainsFunc_impl_Job list (fun (a0 : gJob) => m_impl_FewestShifts_1 a0 m flows) = false) : ∀ i : Int, 0 ≤ i → i < list.length → m_impl_Mine_fitJobs m flows ([at' list i] : List gJob) = true := by
  have h0 : ¬ 0 ≤ m_slices_IndexFunc_impl_Job list (fun (a0 : gJob) => m_impl_FewestShifts_1 a0 m flows) := of_decide_eq_false h
  have h' : LOOP (m_slices_IndexFunc_impl_Job_b1 list (fun (a0 : gJob) => m_impl_FewestShifts_1 a0 m flows)) (fun (x1 : Int) => (-1)) (((list.length : Int) - 0 : Int).toNat + 1) 0 < 0 :=
    (show m_slices_IndexFunc_impl_Job list (fun (a0 : gJob) => m_impl_FewestShifts_1 a0 m flows) < 0 by omega)
  rcases LOOP_find (b := m_slices_IndexFunc_impl_Job_b1 list (fun (a0 : gJob) => m_impl_FewestShifts_1 a0 m flows)) (k := fun (x1 : Int) => (-1)) (n := (list.length : Int)) (fun i => m_impl_FewestShifts_1 (at' list i) m flows) (fun i => i) (fun rec i h0 h1 => by simp only [m_slices_IndexFunc_impl_Job_b1, h1, decide_true, Bool.cond_true]) (fun rec => by simp [m_slices_IndexFunc_impl_Job_b1]) (((list.length : Int) - 0 : Int).toNat + 1) 0 (by omega) (by omega) (by omega) with ⟨j, h1, h2, h3, h4, h5⟩ | ⟨h1, h2⟩
  · rw [h5] at h'; omega
  · intro i h0 hi
    have := h1 i h0 hi
    simpa [m_impl_FewestShifts_1] using this
theorem round_sh {m : gMine} {flows : List Int} {list : List gJob} {b n : Int} (hj : JobsIn m list) (hb : 0 ≤ b ∧ b ≤ 20000) (hn : 0 ≤ n) (hs : ∀ i : Int, 0 ≤ i → i < list.length → m_impl_Mine_fitJobs m flows ([at' list i] : List gJob) = true) (hr : (m_impl_shiftSearch_extend (gshiftSearch.mk m flows list b []) n 0).1 = false) : (m_impl_shiftSearch_extend (gshiftSearch.mk m flows list b []) n 0).2.shifts = [] := (round_is hj.1 hb hn hs hr).1
theorem round_bd {m : gMine} {flows : List Int} {list : List gJob} {b n : Int} (hj : JobsIn m list) (hb : 0 ≤ b ∧ b ≤ 20000) (hn : 0 ≤ n) (hs : ∀ i : Int, 0 ≤ i → i < list.length → m_impl_Mine_fitJobs m flows ([at' list i] : List gJob) = true) (hr : (m_impl_shiftSearch_extend (gshiftSearch.mk m flows list b []) n 0).1 = false) : (m_impl_shiftSearch_extend (gshiftSearch.mk m flows list b []) n 0).2.budget ≤ b ∧ (m_impl_shiftSearch_extend (gshiftSearch.mk m flows list b []) n 0).2.budget + (if n = 0 then 0 else 1) ≤ b := by
  have h := round_is hj.1 hb hn hs hr
  refine ⟨h.2.1, ?_⟩
  split
  · have := h.2.1; omega
  · have := h.2.2 (by omega); omega
theorem round_mu {m : gMine} {flows : List Int} {list : List gJob} {b n : Int} (hj : JobsIn m list) (hb : 0 ≤ b ∧ b ≤ 20000) (hn : 0 ≤ n) (hs : ∀ i : Int, 0 ≤ i → i < list.length → m_impl_Mine_fitJobs m flows ([at' list i] : List gJob) = true) (hr : (m_impl_shiftSearch_extend (gshiftSearch.mk m flows list b []) n 0).1 = false) (h0 : 0 ≤ (m_impl_shiftSearch_extend (gshiftSearch.mk m flows list b []) n 0).2.budget) : (2 * (m_impl_shiftSearch_extend (gshiftSearch.mk m flows list b []) n 0).2.budget + (if n + 1 = 0 then 1 else 0)).toNat < (2 * b + (if n = 0 then 1 else 0)).toNat := by
  have h := round_is hj.1 hb hn hs hr
  rw [if_neg (by omega : ¬ n + 1 = 0)]
  split
  · have := h.2.1; omega
  · have := h.2.2 (by omega); omega

end Go.Proofs.Ytchjibndocnnhaa
