/-
  PLAIN LAWS about the models: no program in sight. Conditions: as each theorem states them.
-/
import Derived.Test.YtbflomopgofkgaaExactRankCrewsPlain2
set_option linter.unusedVariables false
set_option linter.unusedSimpArgs false
set_option linter.unusedSectionVars false
set_option linter.unnecessarySimpa false
namespace Go.Proofs.Ytbflomopgofkgaa
open Go Go.RowKit Go.Proofs Go.Proofs.Ytbflomopgofkgaa.E
/-! ## Sorting whole numbers: putting each in its place comes to the sorted list -/
abbrev Up (l : List Int) : Prop := l.Pairwise (· ≤ ·)
def srt (l : List Int) : List Int := l.mergeSort fun x y => decide (x ≤ y)
theorem srt_up (l : List Int) : Up (srt l) := by
  have := List.pairwise_mergeSort (le := fun x y : Int => decide (x ≤ y)) (fun a b c h1 h2 => by simp only [decide_eq_true_eq] at *; omega) (fun a b => by simp only [Bool.or_eq_true, decide_eq_true_eq]; omega) l
  exact this.imp (fun h => by simpa using h)
theorem srt_perm (l : List Int) : (srt l).Perm l := List.mergeSort_perm l _
theorem srt_is {s l : List Int} (h : Up s) (hp : s.Perm l) : s = srt l :=
  List.Perm.eq_of_pairwise (le := (· ≤ ·)) (fun a b _ _ h1 h2 => Int.le_antisymm h1 h2) h (srt_up l) (hp.trans (srt_perm l).symm)
theorem srt_len (l : List Int) : (srt l).length = l.length := List.length_mergeSort l
/-- x put at place n of a rising list -/
theorem ins_up {s : List Int} {x : Int} {n : Nat} (h : Up s) (h1 : ∀ y ∈ s.take n, y ≤ x) (h2 : ∀ y ∈ s.drop n, x ≤ y) : Up (s.take n ++ [x] ++ s.drop n) := by
  have h' : Up (s.take n ++ s.drop n) := by rw [List.take_append_drop]; exact h
  rw [Up, List.pairwise_append] at h'
  rw [Up, List.append_assoc, List.pairwise_append]
  refine ⟨h'.1, ?_, fun a ha b hb => ?_⟩
  · rw [List.singleton_append, List.pairwise_cons]; exact ⟨h2, h'.2.1⟩
  · rw [List.singleton_append, List.mem_cons] at hb
    rcases hb with rfl | hb
    · exact h1 a ha
    · exact h'.2.2 a ha b hb
theorem ins_perm {s : List Int} {x : Int} {n : Nat} : (s.take n ++ [x] ++ s.drop n).Perm (s ++ [x]) := by
  have e : s ++ [x] = s.take n ++ (s.drop n ++ [x]) := by rw [← List.append_assoc, List.take_append_drop]
  rw [e, List.append_assoc]
  exact List.Perm.append_left _ (List.perm_append_comm)
theorem up_le {s : List Int} (h : Up s) {i j : Nat} (hij : i ≤ j) (hj : j < s.length) : s[i]'(by omega) ≤ s[j] := by
  rcases Nat.lt_or_ge i j with hlt | hge
  · exact List.pairwise_iff_getElem.1 h i j (by omega) hj hlt
  · have : i = j := by omega
    subst this; exact Int.le_refl _
/-- the place where x belongs -/
theorem place_ok {s : List Int} {x : Int} {n : Nat} (h : Up s) (hn : n ≤ s.length) (h1 : n = 0 ∨ ∃ (hq : n - 1 < s.length), s[n - 1] ≤ x) (h2 : ∀ j (hj : j < s.length), n ≤ j → x < s[j]) : (∀ y ∈ s.take n, y ≤ x) ∧ ∀ y ∈ s.drop n, x ≤ y := by
  constructor
  · intro y hy
    obtain ⟨j, hj, rfl⟩ := List.getElem_of_mem hy
    rw [List.length_take] at hj
    rw [List.getElem_take]
    rcases h1 with h1 | ⟨hq, h1⟩
    · omega
    · exact Int.le_trans (up_le h (by omega) hq) h1
  · intro y hy
    obtain ⟨j, hj, rfl⟩ := List.getElem_of_mem hy
    rw [List.length_drop] at hj
    rw [List.getElem_drop]
    exact Int.le_of_lt (h2 _ (by omega) (by omega))

end Go.Proofs.Ytbflomopgofkgaa
