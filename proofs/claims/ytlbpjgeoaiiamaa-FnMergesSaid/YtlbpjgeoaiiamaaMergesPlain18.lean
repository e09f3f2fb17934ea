/-
  PLAIN LAWS about the models: no program in sight. Conditions: as each theorem states them.
-/
import Derived.Test.YtlbpjgeoaiiamaaMergesPlain17
set_option linter.unusedVariables false
set_option linter.unusedSimpArgs false
set_option linter.unusedSectionVars false
set_option linter.unnecessarySimpa false
namespace Go.Proofs.Ytlbpjgeoaiiamaa
open Go Go.RowKit Go.Proofs Go.Proofs.Ytlbpjgeoaiiamaa.E
/-! ## Memos: both models judge alike -/
theorem memo_eq (s : List UInt8) : m_impl_memoValid s = m_spec_l27Memo s := by
  rw [Bool.eq_iff_iff]
  have h1 := LOOP_all (b := m_impl_bytesWithin_b1 s 32 126) (n := s.length) (fun rec k i _ => rfl) (k := fun _ => true) (((s.length : Int) - 0 : Int).toNat + 1) 0 (by omega) (by omega) (by omega)
  have h2 := LOOP_all (b := m_spec_l27Memo_b1 s) (n := s.length) (fun rec k i _ => rfl) (k := fun _ => decide ((s.length : Int) ≤ 20)) (((s.length : Int) - 0 : Int).toNat + 1) 0 (by omega) (by omega) (by omega)
  simp only [m_impl_memoValid, m_spec_l27Memo, m_impl_bytesWithin, Bool.and_eq_true]
  rw [h1, h2]
  constructor
  · rintro ⟨a, b, _⟩; exact ⟨b, a⟩
  · rintro ⟨b, a⟩; exact ⟨a, b, rfl⟩
theorem memo_len {s : List UInt8} (h : m_spec_l27Memo s = true) : s.length ≤ 20 := by
  have h2 := LOOP_all (b := m_spec_l27Memo_b1 s) (n := s.length) (fun rec k i _ => rfl) (k := fun _ => decide ((s.length : Int) ≤ 20)) (((s.length : Int) - 0 : Int).toNat + 1) 0 (by omega) (by omega) (by omega)
  have := (h2.1 h).2
  simp at this; omega
theorem memo_lenI {s : List UInt8} (h : m_impl_memoValid s = true) : s.length ≤ 20 := memo_len (by rw [← memo_eq]; exact h)

end Go.Proofs.Ytlbpjgeoaiiamaa
