/-
  PLAIN LAWS about the models: no program in sight. Conditions: as each theorem states them.
-/
import Derived.Test.YtfiedbefaoeoaaaMixingPlain7
set_option linter.unusedVariables false
set_option linter.unusedSimpArgs false
set_option linter.unusedSectionVars false
set_option linter.unnecessarySimpa false
namespace Go.Proofs.Ytfiedbefaoeoaaa
open Go Go.RowKit Go.Proofs Go.Proofs.Ytfiedbefaoeoaaa.E
/-! ## Flows, by the program alone -/
theorem allWithin_iff {list : List Int} {lo hi : Int} : m_impl_allWithin list lo hi = true ↔ ∀ y ∈ list, lo ≤ y ∧ y ≤ hi := by
  simp only [m_impl_allWithin, Bool.not_eq_true']
  rw [← Bool.not_eq_true, cf_int64]
  simp only [m_impl_allWithin_1, m_impl_within, Bool.not_eq_true', Bool.and_eq_false_iff, decide_eq_false_iff_not]
  constructor
  · intro h y hy
    refine Decidable.byContradiction fun hn => h ⟨y, hy, ?_⟩
    omega
  · rintro h ⟨y, hy, h2⟩
    have := h y hy
    omega
def FlowsIn (m : gMine) (flows : List Int) : Prop := flows.length = m.Airways.length ∧ ∀ y ∈ flows, -100000 ≤ y ∧ y ≤ 100000
theorem hasFlows_iff {m : gMine} {flows : List Int} : m_impl_Mine_hasFlows m flows = true ↔ FlowsIn m flows := by
  simp only [m_impl_Mine_hasFlows, m_impl_Mine_hasList, Bool.and_eq_true, allWithin_iff, FlowsIn, beq_iff_eq]
  constructor
  · rintro ⟨h1, h2⟩; exact ⟨by omega, h2⟩
  · rintro ⟨h1, h2⟩; exact ⟨by omega, h2⟩
theorem FlowsIn.at {m : gMine} {flows : List Int} {i : Int} (h : FlowsIn m flows) (hi : 0 ≤ i ∧ i < m.Airways.length) : -100000 ≤ at' flows i ∧ at' flows i ≤ 100000 := at_all h.2 (by have := h.1; omega)
theorem hasFlows_imp {m : gMine} {flows : List Int} (h : m_impl_Mine_hasFlows m flows = true) : FlowsIn m flows := hasFlows_iff.1 h
theorem abs_val {n : Int} (h : -100000 ≤ n ∧ n ≤ 100000) : m_impl_abs n = if n < 0 then -n else n := by
  simp only [m_impl_abs]
  rw [wr64 (n := 0 - n) (by omega)]
  split <;> split <;> omega
theorem abs_ne {n : Int} (h : -100000 ≤ n ∧ n ≤ 100000) (h0 : ¬ n = 0) : ¬ m_impl_abs n = 0 := by
  rw [abs_val h]; split <;> omega

end Go.Proofs.Ytfiedbefaoeoaaa
