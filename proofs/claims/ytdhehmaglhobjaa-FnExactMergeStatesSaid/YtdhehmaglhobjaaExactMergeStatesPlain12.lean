/-
  PLAIN LAWS about the models: no program in sight. Conditions: as each theorem states them.
-/
import Derived.Test.YtdhehmaglhobjaaExactMergeStatesPlain11
set_option linter.unusedVariables false
set_option linter.unusedSimpArgs false
set_option linter.unusedSectionVars false
set_option linter.unnecessarySimpa false
namespace Go.Proofs.Ytdhehmaglhobjaa
open Go Go.RowKit Go.Proofs Go.Proofs.Ytdhehmaglhobjaa.E
theorem name_ne {s : List UInt8} (h : m_spec_l01Name s = true) : s ≠ [] := by
  rintro rfl
  simp only [m_spec_l01Name] at h
  simp [strB] at h
theorem state_names {list : List gSetting} (h : m_spec_l27State list = true) : ∀ y ∈ nms list, y ≠ [] := by
  intro y hy
  obtain ⟨e, he, rfl⟩ := List.mem_map.1 hy
  obtain ⟨j, hj, rfl⟩ := List.getElem_of_mem he
  have := ((state_all list).1 h).1 j (by omega) (by omega)
  simp only [Bool.or_eq_false_iff, Bool.not_eq_false', m_spec_l27Setting, Bool.and_eq_true] at this
  rw [at_lt hj] at this
  exact name_ne this.1.1

end Go.Proofs.Ytdhehmaglhobjaa
