/-
  PLAIN LAWS about the models: no program in sight. Conditions: as each theorem states them.
-/
import Derived.Test.YtahohnhmdlndfaaExactFreshJunctionsPlain9
set_option linter.unusedVariables false
set_option linter.unusedSimpArgs false
set_option linter.unusedSectionVars false
set_option linter.unnecessarySimpa false
namespace Go.Proofs.Ytahohnhmdlndfaa
open Go Go.RowKit Go.Proofs Go.Proofs.Ytahohnhmdlndfaa.E
/-! ## FreshJunctions -/
theorem FreshJunctions_eq (m : gMine) (flows : List Int) (f : gFire) (t : Int) : m_impl_FreshJunctions m flows f t = m_spec_FreshJunctions m flows f t := by
  simp only [m_impl_FreshJunctions, m_spec_FreshJunctions, fireCode_eq]
  cases hc : (m_spec_l17More m flows f t != 0) with
  | true => rfl
  | false =>
    have h := (l17More_imp (by simpa using hc)).1
    have e : m_impl_FreshJunctions_b1 m flows f t = m_spec_FreshJunctions_b1 m flows f t := by
      funext rec k x
      simp only [m_impl_FreshJunctions_b1, m_spec_FreshJunctions_b1, arrivals_eq h.1 h.2.1 h.2.2]
    simp only [Bool.cond_false, arrivals_eq h.1 h.2.1 h.2.2, e]
theorem FreshJunctions_len (m : gMine) (flows : List Int) (f : gFire) (t : Int) : (m_spec_FreshJunctions m flows f t).1.length ≤ 1048576 := by
  simp only [m_spec_FreshJunctions]
  cases hc : (m_spec_l17More m flows f t != 0) with
  | true => simp
  | false =>
    have h := (l17More_imp (by simpa using hc)).1
    have h1 := (arrivals_SmB h.1 h.2.1 h.2.2).2
    have hJ := h.1.1
    simp only [Bool.cond_false]
    generalize (m_spec_l17Arrival m flows f).length = N at h1
    refine LOOP_post (fun (x : List Int × Int) => (x.1.length : Int) ≤ x.2 ∧ 0 ≤ x.2 ∧ x.2 ≤ m.Junctions) (fun x => (m.Junctions - x.2).toNat) (fun _ (r : List Int × Int) => r.1.length ≤ 1048576) ?_ _ _ ⟨by simp, by dsimp only; omega, by dsimp only; omega⟩ (by dsimp only; omega)
    rintro rec1 ⟨xs, i⟩ hx hrec
    dsimp only at hx hrec
    have h1' := (arrivals_SmB h.1 h.2.1 h.2.2).2
    simp only [m_spec_FreshJunctions_b1, h1']
    by_cases hi : i < m.Junctions
    · simp only [hi, decide_true, Bool.cond_true]
      cases decide (at' (m_spec_l17Arrival m flows f) i < 0) || decide (t < at' (m_spec_l17Arrival m flows f) i)
      · exact hrec _ ⟨by dsimp only; omega, by dsimp only; omega, by dsimp only; omega⟩ (by dsimp only; omega)
      · exact hrec _ ⟨by simp only [List.length_append, List.length_cons, List.length_nil]; omega, by dsimp only; omega, by dsimp only; omega⟩ (by dsimp only; omega)
    · simp only [hi, decide_false, Bool.cond_false]; omega

end Go.Proofs.Ytahohnhmdlndfaa
