/-
  PLAIN LAWS about the models: no program in sight. Conditions: as each theorem states them.
-/
import Derived.Test.YtdhehmaglhobjaaExactConflictsOfPlain12
set_option linter.unusedVariables false
set_option linter.unusedSimpArgs false
set_option linter.unusedSectionVars false
set_option linter.unnecessarySimpa false
namespace Go.Proofs.Ytdhehmaglhobjaa
open Go Go.RowKit Go.Proofs Go.Proofs.Ytdhehmaglhobjaa.E
theorem name_ne {s : List UInt8} (h : m_spec_l01Name s = true) : s ≠ [] := by
  rintro rfl
  simp only [m_spec_l01Name] at h
  simp [strB] at h
theorem state_names {list : List gSetting} (h : m_spec_l27State list = true) : ∀ y ∈ nms list, y ≠ [] := by
  intro y hy
  obtain ⟨e, he, rfl⟩ := List.mem_map.1 hy
  obtain ⟨j, hj, rfl⟩ := List.getElem_of_mem he
  have := ((state_all list).1 h).1 j (by omega) (by omega)
  simp only [Bool.or_eq_false_iff, Bool.not_eq_false', m_spec_l27Setting, Bool.and_eq_true] at this
  rw [at_lt hj] at this
  exact name_ne this.1.1
theorem ConflictsOf_eq (base a b : List gSetting) : m_impl_ConflictsOf base a b = m_spec_ConflictsOf base a b := by
  simp only [m_impl_ConflictsOf, m_spec_ConflictsOf, state_eq]
  cases h1 : m_spec_l27State base <;> cases h2 : m_spec_l27State a <;> cases h3 : m_spec_l27State b <;> try rfl
  have hm := (names_spec base a b).2
  have hne : ∀ y ∈ m_spec_l27Names base a b, y ≠ [] := fun y hy => by
    rcases (hm y).1 hy with h | h | h
    · exact state_names h1 y h
    · exact state_names h2 y h
    · exact state_names h3 y h
  have hlen : (m_spec_l27Names base a b).length ≤ 1000000 := by
    rw [← names_eq, names_impl]
    unfold Lib.compact Lib.compactUpTo
    rw [List.length_map]
    refine Nat.le_trans (List.length_filter_le _ _) ?_
    rw [List.length_range, List.length_mergeSort]
    have g1 := (state_in h1).1; have g2 := (state_in h2).1; have g3 := (state_in h3).1
    simp only [nms, List.length_append, List.length_map]; omega
  simp only [Bool.not_true, Bool.or_self, Bool.cond_false, m_impl_conflictsOf]
  rw [names_eq, del_is _ _ hlen, conf_spec base a b hne]
  rfl

end Go.Proofs.Ytdhehmaglhobjaa
