/-
  PLAIN LAWS about the models: no program in sight. Conditions: as each theorem states them.
-/
import Derived.Test.YtahohnhmdlndfaaExactSmokyAirwaysPlain10
set_option linter.unusedVariables false
set_option linter.unusedSimpArgs false
set_option linter.unusedSectionVars false
set_option linter.unnecessarySimpa false
namespace Go.Proofs.Ytahohnhmdlndfaa
open Go Go.RowKit Go.Proofs Go.Proofs.Ytahohnhmdlndfaa.E
/-! ## SmokyAirways -/
theorem SmokyAirways_eq (m : gMine) (flows : List Int) (f : gFire) (t : Int) : m_impl_SmokyAirways m flows f t = m_spec_SmokyAirways m flows f t := by
  simp only [m_impl_SmokyAirways, m_spec_SmokyAirways, fireCode_eq]
  cases hc : (m_spec_l17More m flows f t != 0) with
  | true => rfl
  | false =>
    have h := (l17More_imp (by simpa using hc)).1
    have hl := h.2.1.1
    simp only [Bool.cond_false, hl]
    refine LOOP_sim (fun x y => x = y ∧ 0 ≤ x.2) (fun (x : List Int × Int) => ((m.Airways.length : Int) - x.2).toNat) (fun x => ((m.Airways.length : Int) - x.2).toNat) ?_ _ _ _ _ ⟨rfl, by dsimp only; omega⟩ (by dsimp only; omega) (by dsimp only; omega)
    rintro rec1 rec1' ⟨xs, i⟩ _ ⟨rfl, hi0⟩ hrec
    dsimp only at hi0 hrec
    simp only [m_impl_SmokyAirways_b1, m_spec_SmokyAirways_b1, hl]
    by_cases hi : i < (m.Airways.length : Int)
    · simp only [hi, decide_true, Bool.cond_true, arrivals_eq h.1 h.2.1 h.2.2, front_eq h.1 h.2.1 (m_spec_l17Arrival m flows f) ⟨hi0, hi⟩]
      rw [Bool.or_comm]
      cases ((i == f.Airway) && decide (f.Start ≤ t)) || decide (0 < m_spec_l17Front m flows (m_spec_l17Arrival m flows f) i t)
      · exact hrec _ _ ⟨rfl, by dsimp only; omega⟩ (by dsimp only; omega) (by dsimp only; omega)
      · exact hrec _ _ ⟨rfl, by dsimp only; omega⟩ (by dsimp only; omega) (by dsimp only; omega)
    · simp only [hi, decide_false, Bool.cond_false]
theorem SmokyAirways_len (m : gMine) (flows : List Int) (f : gFire) (t : Int) : (m_spec_SmokyAirways m flows f t).1.length ≤ 1048576 := by
  simp only [m_spec_SmokyAirways]
  cases hc : (m_spec_l17More m flows f t != 0) with
  | true => simp
  | false =>
    have h := (l17More_imp (by simpa using hc)).1
    have hl := h.2.1.1
    have hA := h.1.2.1
    simp only [Bool.cond_false]
    refine LOOP_post (fun (x : List Int × Int) => (x.1.length : Int) ≤ x.2 ∧ 0 ≤ x.2 ∧ x.2 ≤ flows.length) (fun x => ((flows.length : Int) - x.2).toNat) (fun _ (r : List Int × Int) => r.1.length ≤ 1048576) ?_ _ _ ⟨by simp, by dsimp only; omega, by dsimp only; omega⟩ (by dsimp only; omega)
    rintro rec1 ⟨xs, i⟩ hx hrec
    dsimp only at hx hrec
    simp only [m_spec_SmokyAirways_b1]
    by_cases hi : i < (flows.length : Int)
    · simp only [hi, decide_true, Bool.cond_true]
      cases ((i == f.Airway) && decide (f.Start ≤ t)) || decide (0 < m_spec_l17Front m flows (m_spec_l17Arrival m flows f) i t)
      · exact hrec _ ⟨by dsimp only; omega, by dsimp only; omega, by dsimp only; omega⟩ (by dsimp only; omega)
      · exact hrec _ ⟨by simp only [List.length_append, List.length_cons, List.length_nil]; omega, by dsimp only; omega, by dsimp only; omega⟩ (by dsimp only; omega)
    · simp only [hi, decide_false, Bool.cond_false]; omega

end Go.Proofs.Ytahohnhmdlndfaa
