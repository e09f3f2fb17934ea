/-
  PLAIN LAWS about the models: no program in sight. Conditions: as each theorem states them.
-/
import Derived.Test.YtchjibndocnnhaaCrewsPlain23
set_option linter.unusedVariables false
set_option linter.unusedSimpArgs false
set_option linter.unusedSectionVars false
set_option linter.unnecessarySimpa false
namespace Go.Proofs.Ytchjibndocnnhaa
open Go Go.RowKit Go.Proofs Go.Proofs.Ytchjibndocnnhaa.E
/-! ## The numbers of the law -/
theorem r8At_rng {code : List Int} (hc : ∀ y ∈ code, 0 ≤ y ∧ y ≤ 255) {k n : Int} (hn : 1 ≤ n) : 0 ≤ m_laws_r8At code k n ∧ m_laws_r8At code k n < n := by
  simp only [m_laws_r8At]
  cases (decide (n ≤ 1)) || (decide ((code.length : Int) ≤ k)) with
  | true => simp only [Bool.cond_true]; omega
  | false =>
    simp only [Bool.cond_false]
    have h := code_at hc k
    rw [wr64 (by omega), Int.tmod_eq_emod_of_nonneg h.1]
    exact ⟨Int.emod_nonneg _ (by omega), Int.emod_lt_of_pos _ (by omega)⟩
theorem r8mine_in {code : List Int} (hc : ∀ y ∈ code, 0 ≤ y ∧ y ≤ 255) : MineIn (m_spec_R8Mine code) := (draw4_good (Lim.from hc)).mine
theorem r8mine_ok {code : List Int} (hc : ∀ y ∈ code, 0 ≤ y ∧ y ≤ 255) : m_impl_ValidMine (m_spec_R8Mine code) = true := (draw4_good (Lim.from hc)).valid

end Go.Proofs.Ytchjibndocnnhaa
