/-
  PLAIN LAWS about the models: no program in sight. Conditions: as each theorem states them.
-/
import Derived.Test.YtibbfdojcdkopaaExactAssignCrewsPlain10
set_option linter.unusedVariables false
set_option linter.unusedSimpArgs false
set_option linter.unusedSectionVars false
set_option linter.unnecessarySimpa false
namespace Go.Proofs.Ytibbfdojcdkopaa
open Go Go.RowKit Go.Proofs Go.Proofs.Ytibbfdojcdkopaa.E
/-! ## Loops that pick some places of a list -/
def sel (p : Int → Bool) (g : Int → Int) : Nat → Int → List Int
  | 0, _ => []
  | m + 1, i => (if p i then [g i] else []) ++ sel p g m (i + 1)
theorem filt_loop {ρ : Type} {n : Nat} {p : Int → Bool} {g : Int → Int} {b : ((List Int × Int) → ρ) → ((List Int × Int) → ρ) → (List Int × Int) → ρ} {k : (List Int × Int) → ρ}
    (hb : ∀ rec x, b rec k x = bif decide (x.2 < (n : Int)) then bif p x.2 then rec (x.1 ++ ([g x.2] : List Int), x.2 + 1) else rec (x.1, x.2 + 1) else k (x.1, x.2)) :
    LOOP b k (((n : Int) - 0 : Int).toNat + 1) (([] : List Int), 0) = k (sel p g n 0, (n : Int)) := by
  have := LOOP_is (b := b) (k := k) (fun x : List Int × Int => 0 ≤ x.2 ∧ x.2 ≤ n) (fun x => ((n : Int) - x.2).toNat) (fun x => k (x.1 ++ sel p g ((n : Int) - x.2).toNat x.2, (n : Int))) (fun rec x hI ih => ?_) (f := ((n : Int) - 0 : Int).toNat + 1) (x := (([] : List Int), (0 : Int))) ⟨by simp, by simp⟩ (by simp)
  · rw [this]; simp
  · obtain ⟨l, i⟩ := x
    obtain ⟨h0, h1⟩ := hI
    simp only at h0 h1
    rw [hb]
    simp only
    by_cases hi : i < (n : Int)
    · have e : ((n : Int) - i).toNat = ((n : Int) - (i + 1)).toNat + 1 := by omega
      simp only [hi, decide_true, Bool.cond_true]
      cases hp : p i with
      | true =>
        simp only [Bool.cond_true]
        rw [ih _ ⟨by simp only; omega, by simp only; omega⟩ (by simp only; omega)]
        simp only; rw [e, sel, if_pos hp, List.append_assoc]
      | false =>
        simp only [Bool.cond_false]
        rw [ih _ ⟨by simp only; omega, by simp only; omega⟩ (by simp only; omega)]
        simp only; rw [e, sel, if_neg (by simp [hp]), List.nil_append]
    · have : i = n := by omega
      subst this
      simp [sel]
theorem sel_all {g : Int → Int} : ∀ (m : Nat) (i : Int), sel (fun _ => true) g m i = (List.range m).map fun (j : Nat) => g (i + (j : Int))
  | 0, _ => rfl
  | m + 1, i => by
    rw [sel, sel_all m (i + 1), List.range_succ_eq_map]
    simp only [if_true, List.map_cons, List.map_map, List.singleton_append]
    congr 1
    · simp
    · apply List.map_congr_left; intro j _; simp only [Function.comp]; congr 1; omega
theorem sel_mem {p : Int → Bool} {g : Int → Int} : ∀ (m : Nat) (i : Int), ∀ y ∈ sel p g m i, ∃ j, i ≤ j ∧ j < i + m ∧ y = g j
  | 0, _, y, h => by simp [sel] at h
  | m + 1, i, y, h => by
    rw [sel, List.mem_append] at h
    rcases h with h | h
    · by_cases hp : p i = true
      · rw [if_pos hp] at h; exact ⟨i, by omega, by omega, by simpa using h⟩
      · rw [if_neg hp] at h; simp at h
    · obtain ⟨j, h1, h2, h3⟩ := sel_mem m (i + 1) y h
      exact ⟨j, by omega, by omega, h3⟩

end Go.Proofs.Ytibbfdojcdkopaa
