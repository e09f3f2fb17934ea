/-
  PLAIN LAWS about the models: no program in sight. Conditions: as each theorem states them.
-/
import Derived.Test.YtibbfdojcdkopaaGreatPlacesModels
set_option linter.unusedVariables false
set_option linter.unusedSimpArgs false
set_option linter.unusedSectionVars false
set_option linter.unnecessarySimpa false
namespace Go.Proofs.YtibbfdojcdkopaaGreat
open Go Go.RowKit Go.Proofs Go.Proofs.YtibbfdojcdkopaaGreat.E
/-! ## Sizes, copies, equality: printed by a program of this claim -/
theorem cf_int64 {s : List Int} {f : Int → Bool} : Bo s f = true ↔ ∃ y ∈ s, f y = true := by
  have hd : Bo s f = true ↔ 0 ≤ LOOP (Bn s f) (fun _ => (-1)) (((s.length : Int) - 0 : Int).toNat + 1) 0 := decide_eq_true_iff
  rw [hd]
  rcases LOOP_find (b := Bn s f) (k := fun _ => (-1)) (n := (s.length : Int)) (fun i => f (at' s i)) (fun i => i) (fun rec i h0 h1 => by simp only [Bn, h1, decide_true, Bool.cond_true]) (fun rec => by simp [Bn]) (((s.length : Int) - 0 : Int).toNat + 1) 0 (by omega) (by omega) (by omega) with ⟨j, h1, h2, h3, h4, h5⟩ | ⟨h1, h2⟩
  · rw [h5]; exact ⟨fun _ => ⟨_, at_mem ⟨h1, h2⟩, h3⟩, fun _ => h1⟩
  · rw [h2]
    constructor
    · intro h; omega
    · rintro ⟨y, hy, h⟩
      obtain ⟨j, hj, e⟩ := List.mem_iff_getElem.1 hy
      have := h1 j (by omega) (by omega)
      rw [at_lt hj, e, h] at this; simp at this
end Go.Proofs.YtibbfdojcdkopaaGreat
