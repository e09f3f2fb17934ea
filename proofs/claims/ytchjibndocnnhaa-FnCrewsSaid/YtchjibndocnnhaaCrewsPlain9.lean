/-
  PLAIN LAWS about the models: no program in sight. Conditions: as each theorem states them.
-/
import Derived.Test.YtchjibndocnnhaaCrewsPlain8
set_option linter.unusedVariables false
set_option linter.unusedSimpArgs false
set_option linter.unusedSectionVars false
set_option linter.unnecessarySimpa false
namespace Go.Proofs.Ytchjibndocnnhaa
open Go Go.RowKit Go.Proofs Go.Proofs.Ytchjibndocnnhaa.E
/-! ## Flows: both models judge alike -/
theorem allWithin_iff {list : List Int} {lo hi : Int} : m_impl_allWithin list lo hi = true ↔ ∀ y ∈ list, lo ≤ y ∧ y ≤ hi := by
  simp only [m_impl_allWithin, Bool.not_eq_true']
  rw [← Bool.not_eq_true, cf_int64]
  simp only [m_impl_allWithin_1, m_impl_within, Bool.not_eq_true', Bool.and_eq_false_iff, decide_eq_false_iff_not]
  constructor
  · intro h y hy
    refine Decidable.byContradiction fun hn => h ⟨y, hy, ?_⟩
    omega
  · rintro h ⟨y, hy, h2⟩
    have := h y hy
    omega
def FlowsIn (m : gMine) (flows : List Int) : Prop := flows.length = m.Airways.length ∧ ∀ y ∈ flows, -100000 ≤ y ∧ y ≤ 100000
theorem hasFlows_iff {m : gMine} {flows : List Int} : m_impl_Mine_hasFlows m flows = true ↔ FlowsIn m flows := by
  simp only [m_impl_Mine_hasFlows, m_impl_Mine_hasList, Bool.and_eq_true, allWithin_iff, FlowsIn, beq_iff_eq]
  constructor
  · rintro ⟨h1, h2⟩; exact ⟨by omega, h2⟩
  · rintro ⟨h1, h2⟩; exact ⟨by omega, h2⟩
theorem flows_all {m : gMine} {flows : List Int} {b : (Int → Bool) → (Int → Bool) → Int → Bool} (hb : ∀ rec k i, 0 ≤ i → b rec k i = bif decide (i < (flows.length : Int)) then (bif !(m_spec_l03Flow (at' flows i)) then false else rec (i + 1)) else k i) :
    LOOP b (fun _ => (flows.length : Int) == (m.Airways.length : Int)) (((flows.length : Int) - 0 : Int).toNat + 1) 0 = true ↔ FlowsIn m flows := by
  rw [LOOP_all (n := flows.length) hb _ 0 (by omega) (by omega) (by omega)]
  simp only [m_spec_l03Flow, m_spec_l00In, beq_iff_eq, Bool.not_eq_false', Bool.and_eq_true, decide_eq_true_eq, FlowsIn]
  constructor
  · rintro ⟨h1, h2⟩; exact ⟨by omega, all_at.2 fun j hj => h1 j (by omega) hj⟩
  · rintro ⟨h1, h2⟩; exact ⟨fun j _ hj => at_all h2 ⟨by omega, by omega⟩, by omega⟩
theorem FlowsIn.at {m : gMine} {flows : List Int} {i : Int} (h : FlowsIn m flows) (hi : 0 ≤ i ∧ i < m.Airways.length) : -100000 ≤ at' flows i ∧ at' flows i ≤ 100000 := at_all h.2 (by have := h.1; omega)
theorem hasFlows_imp {m : gMine} {flows : List Int} (h : m_impl_Mine_hasFlows m flows = true) : FlowsIn m flows := hasFlows_iff.1 h
theorem abs_eq (n : Int) : m_impl_abs n = m_spec_l03Abs n := by
  simp only [m_impl_abs, m_spec_l03Abs, m_spec_l00Max]
  generalize IntKind.wrap .i64 (0 - n) = w
  by_cases h : n < w
  · have h2 : ¬ w < n := by omega
    simp [h, h2]
  · by_cases h2 : w < n
    · simp [h, h2]
    · have : w = n := by omega
      simp [this]
theorem abs_val {n : Int} (h : -100000 ≤ n ∧ n ≤ 100000) : m_impl_abs n = if n < 0 then -n else n := by
  simp only [m_impl_abs]
  rw [wr64 (n := 0 - n) (by omega)]
  split <;> split <;> omega
theorem abs_ne {n : Int} (h : -100000 ≤ n ∧ n ≤ 100000) (h0 : ¬ n = 0) : ¬ m_impl_abs n = 0 := by
  rw [abs_val h]; split <;> omega

end Go.Proofs.Ytchjibndocnnhaa
