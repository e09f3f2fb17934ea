/-
  PLAIN LAWS about the models: no program in sight. Conditions: as each theorem states them.
-/
import Derived.Test.YtfiedbefaoeoaaaMixingPlain15
set_option linter.unusedVariables false
set_option linter.unusedSimpArgs false
set_option linter.unusedSectionVars false
set_option linter.unnecessarySimpa false
namespace Go.Proofs.Ytfiedbefaoeoaaa
open Go Go.RowKit Go.Proofs Go.Proofs.Ytfiedbefaoeoaaa.E
/-! ## The greatest number of a list -/
theorem zero_q {q : Int} (h1 : 0 ≤ q) (h2 : q < 1) : q = 0 := by omega
theorem max_spec {s : List Int} (h : 0 < s.length) : (∀ q : Int, 0 ≤ q → q < s.length → at' s q ≤ m_slices_Max_int64 s) ∧ ∃ q : Int, 0 ≤ q ∧ q < s.length ∧ at' s q = m_slices_Max_int64 s := by
  have := LOOP_post (b := m_slices_Max_int64_b1 s) (k := fun x => x.1) (fun (x : Int × Int) => 1 ≤ x.2 ∧ x.2 ≤ s.length ∧ (∀ q : Int, 0 ≤ q → q < x.2 → at' s q ≤ x.1) ∧ ∃ q : Int, 0 ≤ q ∧ q < s.length ∧ at' s q = x.1) (fun x => ((s.length : Int) - x.2).toNat) (fun _ r => (∀ q : Int, 0 ≤ q → q < s.length → at' s q ≤ r) ∧ ∃ q : Int, 0 ≤ q ∧ q < s.length ∧ at' s q = r)
    (fun rec x hx ih => by
      obtain ⟨h1, h2, h3, h4⟩ := hx
      simp only [m_slices_Max_int64_b1]
      by_cases hi : x.2 < (s.length : Int)
      · simp only [hi, decide_true, Bool.cond_true]
        refine ih _ ⟨by dsimp only; omega, by dsimp only; omega, ?_, ?_⟩ (by dsimp only; omega)
        · intro q hq0 hq
          dsimp only at hq ⊢
          by_cases e : q = x.2
          · subst e; split <;> omega
          · have := h3 q hq0 (by omega); split <;> omega
        · dsimp only
          split
          · exact ⟨x.2, by omega, hi, rfl⟩
          · exact h4
      · simp only [hi, decide_false, Bool.cond_false]
        exact ⟨fun q hq0 hq => h3 q hq0 (by omega), h4⟩) (((s.length : Int) - 1 : Int).toNat + 1) (at' s 0, 1) ⟨by dsimp only; omega, by dsimp only; omega, fun q h1 h2 => (by rw [zero_q h1 h2]; exact Int.le_refl _), ⟨0, by omega, by omega, rfl⟩⟩ (by dsimp only; omega)
  exact this

end Go.Proofs.Ytfiedbefaoeoaaa
