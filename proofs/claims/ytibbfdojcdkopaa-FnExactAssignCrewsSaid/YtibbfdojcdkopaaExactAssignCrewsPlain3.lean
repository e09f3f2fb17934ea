/-
  PLAIN LAWS about the models: no program in sight. Conditions: as each theorem states them.
-/
import Derived.Test.YtibbfdojcdkopaaExactAssignCrewsPlain2
set_option linter.unusedVariables false
set_option linter.unusedSimpArgs false
set_option linter.unusedSectionVars false
set_option linter.unnecessarySimpa false
namespace Go.Proofs.Ytibbfdojcdkopaa
open Go Go.RowKit Go.Proofs Go.Proofs.Ytibbfdojcdkopaa.E
/-! ## Flows: both models judge alike -/
theorem allWithin_iff {list : List Int} {lo hi : Int} : m_impl_allWithin list lo hi = true ↔ ∀ y ∈ list, lo ≤ y ∧ y ≤ hi := by
  simp only [m_impl_allWithin, Bool.not_eq_true']
  rw [← Bool.not_eq_true, cf_int64]
  simp only [m_impl_allWithin_1, m_impl_within, Bool.not_eq_true', Bool.and_eq_false_iff, decide_eq_false_iff_not]
  constructor
  · intro h y hy
    refine Decidable.byContradiction fun hn => h ⟨y, hy, ?_⟩
    omega
  · rintro h ⟨y, hy, h2⟩
    have := h y hy
    omega

end Go.Proofs.Ytibbfdojcdkopaa
