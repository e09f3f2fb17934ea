/-
  PLAIN LAWS about the models: no program in sight. Conditions: as each theorem states them.
-/
import Derived.Test.YtchjibndocnnhaaCrewsPlain18
set_option linter.unusedVariables false
set_option linter.unusedSimpArgs false
set_option linter.unusedSectionVars false
set_option linter.unnecessarySimpa false
namespace Go.Proofs.Ytchjibndocnnhaa
open Go Go.RowKit Go.Proofs Go.Proofs.Ytchjibndocnnhaa.E
/-! ## Rounds -/
theorem round_is {m : gMine} {flows : List Int} {list : List gJob} {b n : Int} (hj : list.length ≤ 12) (hb : 0 ≤ b ∧ b ≤ 20000) (hn : 0 ≤ n) (hs : ∀ i : Int, 0 ≤ i → i < list.length → m_impl_Mine_fitJobs m flows ([at' list i] : List gJob) = true) (hr : (m_impl_shiftSearch_extend (gshiftSearch.mk m flows list b []) n 0).1 = false) :
    (m_impl_shiftSearch_extend (gshiftSearch.mk m flows list b []) n 0).2.shifts = [] ∧ (m_impl_shiftSearch_extend (gshiftSearch.mk m flows list b []) n 0).2.budget ≤ b ∧ (1 ≤ n → (m_impl_shiftSearch_extend (gshiftSearch.mk m flows list b []) n 0).2.budget < b) := by
  have e : m_impl_shiftSearch_extend (gshiftSearch.mk m flows list b []) n 0 = m_impl_shiftSearch_extend_n (((list.length : Int) - (([] : List Int).length : Int)).toNat + 1) (gshiftSearch.mk m flows list b []) n 0 := rfl
  rw [e] at hr ⊢
  have hl : 0 < list.length := by
    rcases Nat.eq_zero_or_pos list.length with h | h
    · exfalso
      revert hr
      simp only [m_impl_shiftSearch_extend_n, m_impl_shiftSearch_extend_body]
      have : ((([] : List Int).length : Int) == (list.length : Int)) = true := beq_iff_eq.2 (by rw [h]; rfl)
      rw [this]; intro h; simp at h
    · exact h
  refine ⟨post_impl_shiftSearch_extend _ _ _ _ (by simp) (by simp only; omega) hr, extend_mono _ _ _ _ hb.1 (by simp only; omega) (by simp) (by simp only; omega), fun h1 => ?_⟩
  exact extend_prog (s := gshiftSearch.mk m flows list b []) ⟨hb.1, by simp only; omega⟩ rfl hl (by simp) h1 (by omega) (hs 0 (by omega) (by omega)) hr

end Go.Proofs.Ytchjibndocnnhaa
