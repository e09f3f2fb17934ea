/-
  PLAIN LAWS about the models: no program in sight. Conditions: as each theorem states them.
-/
import Derived.Test.YtceonolphigfdaaDoorExactReadPermitPlain9
set_option linter.unusedVariables false
set_option linter.unusedSimpArgs false
set_option linter.unusedSectionVars false
set_option linter.unnecessarySimpa false
namespace Go.Proofs.YtceonolphigfdaaDoor
open Go Go.RowKit Go.Proofs Go.Proofs.YtceonolphigfdaaDoor.E
/-! ## Words -/
theorem spl32 (s : List UInt8) : m_spec_l01Split s 32 = spl 32 s := split_eq s 32
theorem at_two {p r : List UInt8} : at' [p, r] 0 = p ∧ at' [p, r] 1 = r := ⟨rfl, rfl⟩
theorem split32_len {s : List UInt8} (hs : s.length ≤ 1048576) {i : Int} (hi : 0 ≤ i ∧ i < (m_spec_l01Split s 32).length) : (at' (m_spec_l01Split s 32) i).length ≤ 1048576 := by
  have := at_all (i := i) (xs := m_spec_l01Split s 32) (Q := fun p => p.length ≤ s.length) (by rw [spl32]; exact spl_mem s) hi
  exact Nat.le_trans this hs

end Go.Proofs.YtceonolphigfdaaDoor
