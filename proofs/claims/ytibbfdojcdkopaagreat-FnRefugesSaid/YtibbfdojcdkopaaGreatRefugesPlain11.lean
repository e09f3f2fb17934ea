/-
  PLAIN LAWS about the models: no program in sight. Conditions: as each theorem states them.
-/
import Derived.Test.YtibbfdojcdkopaaGreatRefugesPlain10
set_option linter.unusedVariables false
set_option linter.unusedSimpArgs false
set_option linter.unusedSectionVars false
set_option linter.unnecessarySimpa false
namespace Go.Proofs.YtibbfdojcdkopaaGreat
open Go Go.RowKit Go.Proofs Go.Proofs.YtibbfdojcdkopaaGreat.E
/-! ## Decimal numerals: the reference's digits are the library's numeral; lists of numbers as text -/
def DecI (l : Nat) (m : Int) : Prop := l ≤ 19 ∧ m.natAbs < 10 ^ (19 - l)
theorem DecI.start {n : Int} (h : -9223372036854775808 ≤ n ∧ n ≤ 9223372036854775807) : DecI 0 n := ⟨by omega, by show n.natAbs < 10000000000000000000; omega⟩
theorem DecI.len {l : Nat} {m : Int} (h : DecI l m) : l ≤ 19 := h.1
theorem tdiv_abs (m : Int) : (Int.tdiv m 10).natAbs = m.natAbs / 10 := by
  rw [Int.natAbs_tdiv]; rfl
theorem DecI.wr {l : Nat} {m : Int} (h : DecI l m) : IntKind.wrap .i64 (Int.tdiv m 10) = Int.tdiv m 10 := by
  have h1 : m.natAbs < 10000000000000000000 := Nat.lt_of_lt_of_le h.2 (by
    show 10 ^ (19 - l) ≤ 10 ^ 19
    exact Nat.pow_le_pow_right (by omega) (by omega))
  have h2 := tdiv_abs m
  exact wr64 (by omega)
theorem DecI.step {a : List Int} {b m : Int} (h : DecI a.length m) (hm : ¬ m = 0) : DecI (a ++ [b]).length (IntKind.wrap .i64 (Int.tdiv m 10)) := by
  rw [h.wr]
  have h1 := h.1
  have h2 := h.2
  have hl : a.length < 19 := by
    by_cases e : a.length = 19
    · rw [e] at h2
      have : m.natAbs < 1 := h2
      omega
    · omega
  refine ⟨by simp; omega, ?_⟩
  rw [tdiv_abs]
  have e : 19 - a.length = (19 - (a ++ [b]).length) + 1 := by simp; omega
  rw [e, Nat.pow_succ] at h2
  omega
theorem dec_mu {l : Nat} {m : Int} (h : DecI l m) (hm : ¬ m = 0) : (IntKind.wrap .i64 (Int.tdiv m 10)).natAbs < m.natAbs := by
  rw [h.wr, tdiv_abs]; omega

end Go.Proofs.YtibbfdojcdkopaaGreat
