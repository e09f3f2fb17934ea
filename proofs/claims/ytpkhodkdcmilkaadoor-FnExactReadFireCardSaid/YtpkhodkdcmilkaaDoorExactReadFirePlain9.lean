/-
  PLAIN LAWS about the models: no program in sight. Conditions: as each theorem states them.
-/
import Derived.Test.YtpkhodkdcmilkaaDoorExactReadFirePlain8
set_option linter.unusedVariables false
set_option linter.unusedSimpArgs false
set_option linter.unusedSectionVars false
set_option linter.unnecessarySimpa false
namespace Go.Proofs.YtpkhodkdcmilkaaDoor
open Go Go.RowKit Go.Proofs Go.Proofs.YtpkhodkdcmilkaaDoor.E
theorem valid_eq (c : gFire) : m_impl_Fire_valid c = m_spec_l17One c := by
  simp only [m_impl_Fire_valid, m_spec_l17One]; rfl
theorem neq_nil {s : List UInt8} (h : s ≠ []) : strB .neq ([] : List UInt8) s = true := by
  cases s with | nil => exact absurd rfl h | cons x t => rfl
theorem three_at {l : List Int} (h : (l.length : Int) = 3) : l = [at' l 0, at' l 1, at' l 2] := by
  match l, h with
  | [a, b, c], _ => rfl
  | [], h => simp at h
  | [_], h => simp at h
  | [_, _], h => simp at h
  | _ :: _ :: _ :: _ :: _, h => simp at h; omega
theorem ReadFire_eq (s : List UInt8) (hs : s.length ≤ 1048576) : m_impl_ReadFire s = m_spec_ReadFire s := by
  simp only [m_impl_ReadFire, m_spec_ReadFire]
  rcases readNumbers_is s hs 3 with ⟨h1, h2, h3⟩ | ⟨h1, h2⟩
  · rw [h3]
    have hl := three_at h2
    have hne : (m_spec_ReadList s).1 ≠ [] := fun e => by rw [e] at h2; simp at h2
    have ht := readList_text hs h1 hne
    have hb : (((m_spec_ReadList s).1.length : Int) != 3) = false := by simpa using h2
    simp only [h1, hb, Bool.not_true, Bool.or_self, Bool.cond_false, Bool.false_or, m_impl_FireText, valid_eq]
    generalize hL : (m_spec_ReadList s).1 = L at hl ht
    cases hv : m_spec_l17One (gFire.mk (at' L 0) (at' L 1) (at' L 2)) with
    | false => simp only [Bool.not_false, Bool.cond_true, neq_nil (readList_ne h1)]
    | true =>
      simp only [Bool.not_true, Bool.cond_false]
      rw [← hl, ht, strB_neq_self]; rfl
  · rw [h1, h2]; rfl
theorem law_FnExactReadFire (aS : List UInt8) (hp1 : aS.length ≤ 9223372036854775807) : m_laws_FnExactReadFire aS = true := by
  simp only [m_laws_FnExactReadFire]
  by_cases h1 : 1048576 < (aS.length : Int)
  · simp [h1]
  · simp [h1, ReadFire_eq aS (by omega), eqFire_refl]
theorem readNumbers_len (s : List UInt8) (many : Int) (h : 0 ≤ many) : ((m_impl_readNumbers s many).1.length : Int) = many := by
  simp only [m_impl_readNumbers]
  cases hc : ((!(m_impl_ReadList s).2) || (((m_impl_ReadList s).1.length : Int) != many)) with
  | true => simp only [Bool.cond_true, List.length_replicate]; omega
  | false => simp only [Bool.or_eq_false_iff, bne_eq_false_iff_eq] at hc; exact hc.2

end Go.Proofs.YtpkhodkdcmilkaaDoor
