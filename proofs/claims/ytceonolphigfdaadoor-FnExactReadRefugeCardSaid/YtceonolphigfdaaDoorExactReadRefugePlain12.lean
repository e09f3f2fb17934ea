/-
  PLAIN LAWS about the models: no program in sight. Conditions: as each theorem states them.
-/
import Derived.Test.YtceonolphigfdaaDoorExactReadRefugePlain11
set_option linter.unusedVariables false
set_option linter.unusedSimpArgs false
set_option linter.unusedSectionVars false
set_option linter.unnecessarySimpa false
namespace Go.Proofs.YtceonolphigfdaaDoor
open Go Go.RowKit Go.Proofs Go.Proofs.YtceonolphigfdaaDoor.E
theorem valid_eq (c : gRefuge) : m_impl_Refuge_valid c = m_spec_l20One c := by
  simp only [m_impl_Refuge_valid, m_spec_l20One, name_eq]; rfl
theorem one_len {c : gRefuge} (h : m_spec_l20One c = true) : c.Id.length ≤ 10 := by
  simp only [m_spec_l20One, Bool.and_eq_true] at h
  exact name_len (by simp only [h])
theorem valid_len {c : gRefuge} (h : m_impl_Refuge_valid c = true) : c.Id.length ≤ 100 := by
  have := one_len (by rw [← valid_eq]; exact h); omega
theorem ReadRefuge_eq (s : List UInt8) (hs : s.length ≤ 1048576) : m_impl_ReadRefuge s = m_spec_ReadRefuge s := by
  simp only [m_impl_ReadRefuge, m_spec_ReadRefuge, m_spec_l20Read, spl32]
  rcases withId_is s hs 3 with ⟨p, r, h1, h2, h3, h4, h5⟩ | ⟨h1, h2⟩
  · rw [h5, h2]
    have hrl : r.length ≤ 1048576 := by rw [h1] at hs; simp at hs; omega
    have hl := three_at h4
    have hne : (m_spec_ReadList r).1 ≠ [] := fun e => by rw [e] at h4; simp at h4
    have ht := id_text (p := p) hrl h3 hne
    have hb : (((m_spec_ReadList r).1.length : Int) != 3) = false := by simpa using h4
    have hb2 : ((([p, r] : List (List UInt8)).length : Int) != 2) = false := rfl
    have e0 : at' ([p, r] : List (List UInt8)) 0 = p := rfl
    have e1 : at' ([p, r] : List (List UInt8)) 1 = r := rfl
    have hsn : s ≠ [] := by rw [h1]; simp
    simp only [h3, hb, hb2, e0, e1, Bool.not_true, Bool.or_self, Bool.cond_false, Bool.false_or, m_impl_RefugeText, valid_eq]
    generalize hL : (m_spec_ReadList r).1 = L at hl ht
    cases hv : m_spec_l20One (gRefuge.mk p (at' L 0) (at' L 1) (at' L 2)) with
    | false => simp only [Bool.not_false, Bool.cond_true, neq_nil hsn]
    | true =>
      simp only [Bool.not_true, Bool.cond_false]
      rw [← hl, ht, ← h1, strB_neq_self]; rfl
  · rw [h1]
    rcases h2 with h2 | ⟨p, r, h2, h3⟩
    · have : (((spl 32 s).length : Int) != 2) = true := by rw [bne_iff_ne]; omega
      rw [this]; rfl
    · rw [h2]
      have e1 : at' ([p, r] : List (List UInt8)) 1 = r := rfl
      have hb2 : ((([p, r] : List (List UInt8)).length : Int) != 2) = false := rfl
      rw [hb2, e1, h3]; rfl
theorem law_FnExactReadRefuge (aS : List UInt8) (hp1 : aS.length ≤ 9223372036854775807) : m_laws_FnExactReadRefuge aS = true := by
  simp only [m_laws_FnExactReadRefuge]
  by_cases h1 : 1048576 < (aS.length : Int)
  · simp [h1]
  · simp [h1, ReadRefuge_eq aS (by omega), eqRefuge_refl]

end Go.Proofs.YtceonolphigfdaaDoor
