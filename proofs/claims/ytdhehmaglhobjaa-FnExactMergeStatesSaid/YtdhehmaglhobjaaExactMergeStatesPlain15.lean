/-
  PLAIN LAWS about the models: no program in sight. Conditions: as each theorem states them.
-/
import Derived.Test.YtdhehmaglhobjaaExactMergeStatesPlain14
set_option linter.unusedVariables false
set_option linter.unusedSimpArgs false
set_option linter.unusedSectionVars false
set_option linter.unnecessarySimpa false
namespace Go.Proofs.Ytdhehmaglhobjaa
open Go Go.RowKit Go.Proofs Go.Proofs.Ytdhehmaglhobjaa.E
theorem held_mark_set {a : List gSetting} (h : a.length ≤ 1048576) : m_laws_heldSettingS (m_laws_markSettingS a 1).2 1 = (m_laws_markSettingS a 1).1 ∧ ¬ (m_laws_markSettingS a 1).1 < 0 := by
  have e : m_laws_markSettingS a 1 = (1 + 2 * (a.length : Int), (irange 0 a.length).map (fun j => gSetting.mk (m_laws_markText (1 + 2 * j)) (1 + 2 * j + 1))) :=
    LOOP_markt (f := fun kk => gSetting.mk (m_laws_markText kk) (kk + 1)) (s := 2) (b := m_laws_markSettingS_b1 a 1) (k := fun x => (x.2.1, x.1)) (by omega) 1 (by omega) (fun rec xs kk i h0 h1 h2 h3 => by simp only [m_laws_markSettingS_b1, h1, decide_true, Bool.cond_true]; rw [wr64 (n := kk + 1) (by omega), wr64 (by omega), show kk + 1 + 1 = kk + 2 by omega]) (fun rec xs kk i h1 => by simp only [m_laws_markSettingS_b1, h1, decide_false, Bool.cond_false]) (fun _ => rfl) (((a.length : Int) - 0 : Int).toNat + 1) a 0 (by omega) (by omega) (by omega) (by omega) (fun j h1 h2 => by omega)
  rw [e]
  refine ⟨?_, by simp only []; omega⟩
  generalize hL : (irange 0 a.length).map (fun j => gSetting.mk (m_laws_markText (1 + 2 * j)) (1 + 2 * j + 1)) = L
  have hl : L.length = a.length := by rw [← hL, List.length_map, irange_len]
  have := LOOP_heldt (f := fun kk => gSetting.mk (m_laws_markText kk) (kk + 1)) (s := 2) (L := L) (b := m_laws_heldSettingS_b1 L 1) (k := fun x => x.1) (n := a.length) (by omega) 1 (by omega) (by omega) hL.symm (fun rec kk i h0 h1 h2 h3 h4 => by simp only [m_laws_heldSettingS_b1, hl, h1, decide_true, Bool.cond_true, h4, strB_neq_self, Bool.cond_false]; rw [wr64 (n := kk + 1) (by omega), wr64 (by omega), show kk + 1 + 1 = kk + 2 by omega]; simp) (fun rec kk i h1 => by simp only [m_laws_heldSettingS_b1, hl, h1, decide_false, Bool.cond_false]) (fun _ => rfl) (((a.length : Int) - 0 : Int).toNat + 1) 0 (by omega) (by omega) (by omega)
  simp only [m_laws_heldSettingS, hl]
  exact this
/-- names of valid states -/
theorem mnames {base a b : List gSetting} (h1 : m_spec_l27State base = true) (h2 : m_spec_l27State a = true) (h3 : m_spec_l27State b = true) : (∀ y ∈ m_spec_l27Names base a b, y ≠ []) ∧ (m_spec_l27Names base a b).length ≤ 72 := by
  have hm := (names_spec base a b).2
  refine ⟨fun y hy => ?_, names_le (state_in h1).1 (state_in h2).1 (state_in h3).1⟩
  rcases (hm y).1 hy with h | h | h
  · exact state_names h1 y h
  · exact state_names h2 y h
  · exact state_names h3 y h
theorem conf_eq {base a b : List gSetting} (h1 : m_spec_l27State base = true) (h2 : m_spec_l27State a = true) (h3 : m_spec_l27State b = true) : m_impl_conflictsOf base a b = m_spec_l27Conflicts base a b := by
  have hn := mnames h1 h2 h3
  simp only [m_impl_conflictsOf]
  rw [names_eq, del_is _ _ (by omega), conf_spec base a b hn.1]
  rfl
theorem neq_nil {n : Txt} (h : n ≠ []) : strB .neq n [] = true := by
  have : strB .eql n [] = false := by cases h' : strB .eql n [] with | false => rfl | true => exact absurd (eql_iff.1 h') h
  simpa [strB] using h
theorem MergeStates_eq (base a b : List gSetting) : m_impl_MergeStates base a b = m_spec_MergeStates base a b := by
  simp only [m_impl_MergeStates, m_spec_MergeStates, state_eq]
  cases h1 : m_spec_l27State base <;> cases h2 : m_spec_l27State a <;> cases h3 : m_spec_l27State b <;> try rfl
  have hn := mnames h1 h2 h3
  simp only [Bool.not_true, Bool.or_self, Bool.cond_false, m_spec_l27Merge]
  rw [conf_eq h1 h2 h3, names_eq]
  cases decide (0 < ((m_spec_l27Conflicts base a b).length : Int)) with
  | true => rfl
  | false =>
    simp only [Bool.cond_false]
    show _ = LOOP (m_spec_l27Merge_b1 base a b) _ _ _
    refine LOOP_sim (fun (x y : List gSetting × Int) => x = y ∧ 0 ≤ x.2 ∧ x.2 ≤ (m_spec_l27Names base a b).length) (fun x => (((m_spec_l27Names base a b).length : Int) - x.2).toNat) (fun x => (((m_spec_l27Names base a b).length : Int) - x.2).toNat) (fun rec₁ rec₂ x₁ x₂ hR ih => ?_) _ _ _ _ ⟨rfl, by simp, by simp⟩ (by simp) (by simp)
    obtain ⟨he, g0, g1⟩ := hR
    subst he
    obtain ⟨s, i⟩ := x₁
    simp only at g0 g1
    simp only [m_impl_MergeStates_b1, m_spec_l27Merge_b1, names_eq, JN]
    by_cases hi : i < ((m_spec_l27Names base a b).length : Int)
    · have hlt : i.toNat < (m_spec_l27Names base a b).length := by omega
      have hat : at' (m_spec_l27Names base a b) i = (m_spec_l27Names base a b)[i.toNat] := by
        have := at_lt (xs := m_spec_l27Names base a b) (j := i.toNat) hlt
        rwa [Int.toNat_of_nonneg g0] at this
      have hne : at' (m_spec_l27Names base a b) i ≠ [] := by rw [hat]; exact hn.1 _ (List.getElem_mem hlt)
      simp only [hi, decide_true, Bool.cond_true]
      rw [same_is (l1 := a) (l2 := base) hne]
      generalize at' (m_spec_l27Names base a b) i = nm at hne
      have key : ∀ l : List gSetting, (bif (m_impl_thingAt l nm).there then rec₁ (s ++ ([gSetting.mk nm (m_impl_thingAt l nm).value] : List gSetting), i + 1) else rec₁ (s, i + 1)) = (bif strB .neq (m_spec_l27Get l nm).Name ([] : List UInt8) then rec₂ (s ++ ([gSetting.mk (m_spec_l27Get l nm).Name (m_spec_l27Get l nm).Value] : List gSetting), i + 1) else rec₂ (s, i + 1)) := fun l => by
        rcases thing_is l nm with ⟨q1, q2⟩ | ⟨v, q1, q2⟩ <;> rw [q1, q2]
        · simp only [Bool.cond_false, strB_neq_self]
          exact ih _ _ ⟨rfl, by simp only; omega, by simp only; omega⟩ (by simp only; omega) (by simp only; omega)
        · simp only [Bool.cond_true, neq_nil hne]
          exact ih _ _ ⟨rfl, by simp only; omega, by simp only; omega⟩ (by simp only; omega) (by simp only; omega)
      generalize ((strB .eql (m_spec_l27Get a nm).Name (m_spec_l27Get base nm).Name) && (((m_spec_l27Get a nm).Value == (m_spec_l27Get base nm).Value) && true)) = c
      cases c with
      | true => simpa only [Bool.cond_true] using key b
      | false => simpa only [Bool.cond_false] using key a
    · simp only [hi, decide_false, Bool.cond_false]

end Go.Proofs.Ytdhehmaglhobjaa
