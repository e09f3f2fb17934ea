/-
  PLAIN LAWS about the models: no program in sight. Conditions: as each theorem states them.
-/
import Derived.Test.YtchjibndocnnhaaExactFewestShiftsPlain5
set_option linter.unusedVariables false
set_option linter.unusedSimpArgs false
set_option linter.unusedSectionVars false
set_option linter.unnecessarySimpa false
namespace Go.Proofs.Ytchjibndocnnhaa
open Go Go.RowKit Go.Proofs Go.Proofs.Ytchjibndocnnhaa.E
/-! ## Searches: a pick more, a pick less -/
theorem app_cut {xs : List Int} {y : Int} (h : (xs.length : Int) ≤ 1000000) : pre' (xs ++ ([y] : List Int)) (IntKind.wrap .i64 (((xs ++ ([y] : List Int)).length : Int) - 1)) = xs := by
  rw [List.length_append, List.length_cons, List.length_nil, wr64 (by omega)]
  unfold pre'
  rw [show (((xs.length + (0 + 1) : Nat) : Int) - 1).toNat = xs.length by omega, List.take_left']
  rfl
theorem l23Begin_imp {m : gMine} {flows : List Int} {list : List gJob} {budget : Int} (h : m_spec_l23Begin m flows list budget = 0) : m_spec_l23Ask m flows list = 0 := by
  simp only [m_spec_l23Begin] at h
  cases h1 : (m_spec_l23Ask m flows list == 1) with
  | true => rw [h1] at h; simp at h1; simp [h1] at h
  | false =>
    rw [h1] at h
    cases hb : m_spec_l00In budget 1 20000 with
    | false => rw [hb] at h; simp at h
    | true => rw [hb] at h; simpa using h
theorem l23Begin_impM {m : gMine} {flows : List Int} {list : List gJob} {budget : Int} (h : m_spec_l23Begin m flows list budget = 0) : MineIn m := l23Ask_impM (l23Begin_imp h)
theorem l23Begin_impF {m : gMine} {flows : List Int} {list : List gJob} {budget : Int} (h : m_spec_l23Begin m flows list budget = 0) : FlowsIn m flows := l23Ask_impF (l23Begin_imp h)
theorem l23Begin_impS {m : gMine} {flows : List Int} {list : List gJob} {budget : Int} (h : m_spec_l23Begin m flows list budget = 0) : JobsIn m list := l23Ask_impS (l23Begin_imp h)
theorem l23Begin_impJ {m : gMine} {flows : List Int} {list : List gJob} {budget : Int} (h : m_spec_l23Begin m flows list budget = 0) : (1 ≤ m.Junctions ∧ m.Junctions ≤ 16) ∧ m.Airways.length ≤ 24 ∧ flows.length = m.Airways.length ∧ list.length ≤ 12 := l23Ask_impJ (l23Begin_imp h)
theorem l23Begin_impB {m : gMine} {flows : List Int} {list : List gJob} {budget : Int} (h : m_spec_l23Begin m flows list budget = 0) : 1 ≤ budget ∧ budget ≤ 20000 := by
  simp only [m_spec_l23Begin] at h
  cases h1 : (m_spec_l23Ask m flows list == 1) with
  | true => rw [h1] at h; simp at h1; simp [h1] at h
  | false =>
    rw [h1] at h
    cases hb : m_spec_l00In budget 1 20000 with
    | false => rw [hb] at h; simp at h
    | true => exact l00In_imp hb
theorem budget_imp {budget : Int} (h : m_impl_budgetValid budget = true) : 1 ≤ budget ∧ budget ≤ 20000 := within_imp h

end Go.Proofs.Ytchjibndocnnhaa
