/-
  PLAIN LAWS about the models: no program in sight. Conditions: as each theorem states them.
-/
import Derived.Test.YtceonolphigfdaaDoorExactReadRefugePlain10
set_option linter.unusedVariables false
set_option linter.unusedSimpArgs false
set_option linter.unusedSectionVars false
set_option linter.unnecessarySimpa false
namespace Go.Proofs.YtceonolphigfdaaDoor
open Go Go.RowKit Go.Proofs Go.Proofs.YtceonolphigfdaaDoor.E
/-! ## A name and a list -/
theorem withId_is (s : List UInt8) (hs : s.length ≤ 1048576) (many : Int) : (∃ p r, s = p ++ 32 :: r ∧ spl 32 s = [p, r] ∧ (m_spec_ReadList r).2 = true ∧ ((m_spec_ReadList r).1.length : Int) = many ∧ m_impl_readWithId s many = (p, (m_spec_ReadList r).1, true)) ∨
    ((m_impl_readWithId s many).2.2 = false ∧ ((spl 32 s).length ≠ 2 ∨ ∃ p r, spl 32 s = [p, r] ∧ ((!(m_spec_ReadList r).2) || (((m_spec_ReadList r).1.length : Int) != many)) = true)) := by
  have hcl : (Lib.cut s [32]).2.1.length ≤ 1048576 := by
    rcases spl_first (c := 32) s with ⟨h1, _⟩ | ⟨p, r, h1, h2, _⟩
    · rw [cut_none h1]; simp
    · rw [h1] at hs ⊢; rw [cut_some h2]; simp at hs ⊢; omega
  simp only [m_impl_readWithId, m_strings_Cut, readList_eq _ hcl]
  rcases spl_first (c := 32) s with ⟨h1, h2⟩ | ⟨p, r, h1, h2, h3⟩
  · right
    rw [cut_none h1, h2]
    have : (m_spec_ReadList []).2 = false := by
      cases e : (m_spec_ReadList []).2 with
      | false => rfl
      | true => exact absurd rfl (readList_ne e)
    simp [this]
  · have hc : Lib.cut s [32] = (p, r, true) := by rw [h1]; exact cut_some h2
    rw [hc]
    simp only
    cases hok : ((!(m_spec_ReadList r).2) || (((m_spec_ReadList r).1.length : Int) != many)) with
    | true =>
      right
      refine ⟨rfl, ?_⟩
      by_cases hr : (32 : UInt8) ∈ r
      · left
        rw [h3]
        rcases spl_first (c := 32) r with ⟨g1, _⟩ | ⟨p', r', _, _, g3⟩
        · exact absurd hr g1
        · rw [g3]
          have := List.length_pos_iff.2 (spl_ne 32 r')
          simp only [List.length_cons]; omega
      · right; exact ⟨p, r, by rw [h3, spl_none hr], hok⟩
    | false =>
      simp only [Bool.or_eq_false_iff, Bool.not_eq_false', bne_eq_false_iff_eq] at hok
      left
      exact ⟨p, r, h1, by rw [h3, spl_none (readList_no (by rw [hc] at hcl; exact hcl) hok.1)], hok.1, hok.2, rfl⟩
theorem id_text {p r : List UInt8} (hs : r.length ≤ 1048576) (h : (m_spec_ReadList r).2 = true) (hne : (m_spec_ReadList r).1 ≠ []) : m_impl_withId p (m_spec_ReadList r).1 = p ++ 32 :: r := by
  simp only [m_impl_withId, readList_text hs h hne, List.append_assoc]; rfl
theorem readWithId_len (s : List UInt8) (many : Int) (h : 0 ≤ many) : ((m_impl_readWithId s many).2.1.length : Int) = many := by
  simp only [m_impl_readWithId]
  cases hc : ((!(m_impl_ReadList (m_strings_Cut s ([32] : List UInt8)).2.1).2) || (((m_impl_ReadList (m_strings_Cut s ([32] : List UInt8)).2.1).1.length : Int) != many)) with
  | true => simp only [Bool.cond_true, List.length_replicate]; omega
  | false => simp only [Bool.or_eq_false_iff, bne_eq_false_iff_eq] at hc; exact hc.2
theorem cut_len {s : List UInt8} (hs : s.length ≤ 1048576) : (m_strings_Cut s ([32] : List UInt8)).2.1.length ≤ 1048576 := by
  unfold m_strings_Cut
  rcases spl_first (c := 32) s with ⟨h1, _⟩ | ⟨p, r, h1, h2, _⟩
  · rw [cut_none h1]; simp
  · rw [h1] at hs ⊢; rw [cut_some h2]; simp at hs ⊢; omega

end Go.Proofs.YtceonolphigfdaaDoor
