/-
  PLAIN LAWS about the models: no program in sight. Conditions: as each theorem states them.
-/
import Derived.Test.YtahohnhmdlndfaaExactShortAirwaysPlain4
set_option linter.unusedVariables false
set_option linter.unusedSimpArgs false
set_option linter.unusedSectionVars false
set_option linter.unnecessarySimpa false
namespace Go.Proofs.Ytahohnhmdlndfaa
open Go Go.RowKit Go.Proofs Go.Proofs.Ytahohnhmdlndfaa.E
/-! ## ShortAirways -/
theorem all_is (list : List gJob) : m_spec_l23All list = irange 0 list.length := by
  have h := LOOP_fori (b := m_spec_l23All_b1 list) (k := fun x => x.1) (n := (list.length : Int)) (fun i xs => xs ++ [id i]) (fun rec xs i h0 h1 => by
    simp only [m_spec_l23All_b1, h1, decide_true, Bool.cond_true, id]) (fun rec xs => by simp [m_spec_l23All_b1]) (((list.length : Int) - 0 : Int).toNat + 1) 0 [] (by omega) (by omega) (by omega)
  simp only [m_spec_l23All]
  rw [h, fori_map]
  simp
theorem at_ir {n : Nat} {i : Int} (h0 : 0 ≤ i) (h : i < n) : at' (irange 0 n) i = i := by
  have := at_irange0 (f := id) h0 h
  simpa using this
theorem needs_all (m : gMine) (list : List gJob) : m_spec_l23Needs m list (m_spec_l23All list) = m_impl_Mine_airNeeds m list := by
  refine LOOP_sim (fun x y => x = y ∧ 0 ≤ x.2) (fun (x : List Int × Int) => ((list.length : Int) - x.2).toNat) (fun x => ((list.length : Int) - x.2).toNat) ?_ _ _ _ _ ⟨rfl, by dsimp only; omega⟩ (by rw [all_is, irange_len]; dsimp only; omega) (by dsimp only; omega)
  rintro rec1 rec1' ⟨xs, i⟩ _ ⟨rfl, hi0⟩ hrec
  dsimp only at hi0 hrec
  simp only [m_spec_l23Needs_b1, m_impl_Mine_airNeeds_b1, all_is, irange_len]
  by_cases hi : i < (list.length : Int)
  · simp only [hi, decide_true, Bool.cond_true, at_ir hi0 hi]
    exact hrec _ _ ⟨rfl, by dsimp only; omega⟩ (by dsimp only; omega) (by dsimp only; omega)
  · simp only [hi, decide_false, Bool.cond_false]
theorem ShortAirways_eq (m : gMine) (flows : List Int) (list : List gJob) : m_impl_ShortAirways m flows list = m_spec_ShortAirways m flows list := by
  simp only [m_impl_ShortAirways, m_spec_ShortAirways, jobsCode_eq]
  cases h1 : (m_spec_l23Ask m flows list != 0) with
  | true => rfl
  | false =>
    have h := l23Ask_imp (by simpa using h1)
    have hl := h.2.1.1
    simp only [Bool.cond_false]
    refine LOOP_sim (fun x y => x = y) (fun (x : List Int × Int) => ((m.Airways.length : Int) - x.2).toNat) (fun x => ((m.Airways.length : Int) - x.2).toNat) ?_ _ _ _ _ rfl (by rw [needs_len]; dsimp only; omega) (by rw [hl]; dsimp only; omega)
    rintro rec1 rec1' ⟨xs, i⟩ _ rfl hrec
    dsimp only at hrec
    simp only [m_impl_ShortAirways_b1, m_spec_ShortAirways_b1, needs_all, needs_len, abs_eq, hl]
    by_cases hi : i < (m.Airways.length : Int)
    · simp only [hi, decide_true, Bool.cond_true]
      cases decide (m_spec_l03Abs (at' flows i) < at' (m_impl_Mine_airNeeds m list) i)
      · exact hrec _ _ rfl (by dsimp only; omega) (by dsimp only; omega)
      · exact hrec _ _ rfl (by dsimp only; omega) (by dsimp only; omega)
    · simp only [hi, decide_false, Bool.cond_false]
theorem ShortAirways_len (m : gMine) (flows : List Int) (list : List gJob) : (m_spec_ShortAirways m flows list).1.length ≤ 1048576 := by
  simp only [m_spec_ShortAirways]
  cases h1 : (m_spec_l23Ask m flows list != 0) with
  | true => simp
  | false =>
    have h := l23Ask_imp (by simpa using h1)
    have hl := h.2.1.1
    have hA := h.1.2.1
    simp only [Bool.cond_false]
    refine LOOP_post (fun (x : List Int × Int) => (x.1.length : Int) ≤ x.2 ∧ 0 ≤ x.2 ∧ x.2 ≤ flows.length) (fun x => ((flows.length : Int) - x.2).toNat) (fun _ (r : List Int × Int) => r.1.length ≤ 1048576) ?_ _ _ ⟨by simp, by dsimp only; omega, by dsimp only; omega⟩ (by dsimp only; omega)
    rintro rec1 ⟨xs, i⟩ hx hrec
    dsimp only at hx hrec
    simp only [m_spec_ShortAirways_b1]
    by_cases hi : i < (flows.length : Int)
    · simp only [hi, decide_true, Bool.cond_true]
      cases decide (m_spec_l03Abs (at' flows i) < at' (m_spec_l23Needs m list (m_spec_l23All list)) i)
      · exact hrec _ ⟨by dsimp only; omega, by dsimp only; omega, by dsimp only; omega⟩ (by dsimp only; omega)
      · exact hrec _ ⟨by simp only [List.length_append, List.length_cons, List.length_nil]; omega, by dsimp only; omega, by dsimp only; omega⟩ (by dsimp only; omega)
    · simp only [hi, decide_false, Bool.cond_false]; omega

end Go.Proofs.Ytahohnhmdlndfaa
