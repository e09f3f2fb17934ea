/-
  PLAIN LAWS about the models: no program in sight. Conditions: as each theorem states them.
-/
import Derived.Test.YtpkhodkdcmilkaaDoorExactReadWantPlain9
set_option linter.unusedVariables false
set_option linter.unusedSimpArgs false
set_option linter.unusedSectionVars false
set_option linter.unnecessarySimpa false
namespace Go.Proofs.YtpkhodkdcmilkaaDoor
open Go Go.RowKit Go.Proofs Go.Proofs.YtpkhodkdcmilkaaDoor.E
theorem valid_eq (c : gWant) : m_impl_Want_valid c = m_spec_l21One c := by
  simp only [m_impl_Want_valid, m_spec_l21One]; rfl
theorem ReadWant_eq (s : List UInt8) (hs : s.length ≤ 1048576) : m_impl_ReadWant s = m_spec_ReadWant s := by
  simp only [m_impl_ReadWant, m_spec_ReadWant]
  rcases readNumbers_is s hs 3 with ⟨h1, h2, h3⟩ | ⟨h1, h2⟩
  · rw [h3]
    have hl := three_at h2
    have hne : (m_spec_ReadList s).1 ≠ [] := fun e => by rw [e] at h2; simp at h2
    have ht := readList_text hs h1 hne
    have hb : (((m_spec_ReadList s).1.length : Int) != 3) = false := by simpa using h2
    simp only [h1, hb, Bool.not_true, Bool.or_self, Bool.cond_false, Bool.false_or, m_impl_WantText, valid_eq]
    generalize hL : (m_spec_ReadList s).1 = L at hl ht
    cases hv : m_spec_l21One (gWant.mk (at' L 0) (at' L 1) (at' L 2)) with
    | false => simp only [Bool.not_false, Bool.cond_true, neq_nil (readList_ne h1)]
    | true =>
      simp only [Bool.not_true, Bool.cond_false]
      rw [← hl, ht, strB_neq_self]; rfl
  · rw [h1, h2]; rfl
theorem law_FnExactReadWant (aS : List UInt8) (hp1 : aS.length ≤ 9223372036854775807) : m_laws_FnExactReadWant aS = true := by
  simp only [m_laws_FnExactReadWant]
  by_cases h1 : 1048576 < (aS.length : Int)
  · simp [h1]
  · simp [h1, ReadWant_eq aS (by omega), eqWant_refl]

end Go.Proofs.YtpkhodkdcmilkaaDoor
