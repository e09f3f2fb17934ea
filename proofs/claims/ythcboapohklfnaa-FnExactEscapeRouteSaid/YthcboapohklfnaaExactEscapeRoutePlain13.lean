/-
  PLAIN LAWS about the models: no program in sight. Conditions: as each theorem states them.
-/
import Derived.Test.YthcboapohklfnaaExactEscapeRoutePlain12
set_option linter.unusedVariables false
set_option linter.unusedSimpArgs false
set_option linter.unusedSectionVars false
set_option linter.unnecessarySimpa false
namespace Go.Proofs.Ythcboapohklfnaa
open Go Go.RowKit Go.Proofs Go.Proofs.Ythcboapohklfnaa.E
/-! ## How many places come before one -/
theorem filter_len_le {p q : Int → Bool} (h : ∀ v, p v = true → q v = true) : ∀ L : List Int, (L.filter p).length ≤ (L.filter q).length
  | [] => by simp
  | x :: L => by
    have ih := filter_len_le h L
    simp only [List.filter_cons]
    by_cases hp : p x = true
    · rw [if_pos hp, if_pos (h x hp)]; simp only [List.length_cons]; omega
    · rw [if_neg hp]
      by_cases hq : q x = true
      · rw [if_pos hq]; simp only [List.length_cons]; omega
      · rw [if_neg hq]; exact ih
theorem filter_len_lt {p q : Int → Bool} (h : ∀ v, p v = true → q v = true) {n : Int} (hp : ¬ p n = true) (hq : q n = true) : ∀ L : List Int, n ∈ L → (L.filter p).length < (L.filter q).length
  | [], hn => by simp at hn
  | x :: L, hn => by
    simp only [List.filter_cons]
    by_cases hx : n = x
    · subst hx
      rw [if_neg hp, if_pos hq]
      have := filter_len_le h L
      simp only [List.length_cons]; omega
    · have ih := filter_len_lt h hp hq L (by rcases List.mem_cons.1 hn with e | e; exact absurd e hx; exact e)
      by_cases hpx : p x = true
      · rw [if_pos hpx, if_pos (h x hpx)]; simp only [List.length_cons]; omega
      · rw [if_neg hpx]
        by_cases hqx : q x = true
        · rw [if_pos hqx]; simp only [List.length_cons]; omega
        · rw [if_neg hqx]; exact ih
def rank (T : List Int) (J j : Int) : Nat := ((irange 0 J.toNat).filter (fun v => decide (at' T v < at' T j))).length
theorem rank_lt {T : List Int} {J j n : Int} (hn : 0 ≤ n ∧ n < J) (h : at' T n < at' T j) : rank T J n < rank T J j :=
  filter_len_lt (fun v hv => by simp only [decide_eq_true_eq] at hv ⊢; omega) (n := n) (by simp) (by simpa using h) _ (mem_irange.2 (by omega))
theorem rank_le (T : List Int) (J j : Int) : rank T J j ≤ J.toNat := by
  have := List.length_filter_le (fun v => decide (at' T v < at' T j)) (irange 0 J.toNat)
  rw [irange_len] at this
  exact this

end Go.Proofs.Ythcboapohklfnaa
