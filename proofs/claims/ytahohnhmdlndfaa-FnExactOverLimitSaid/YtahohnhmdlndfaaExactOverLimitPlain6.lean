/-
  PLAIN LAWS about the models: no program in sight. Conditions: as each theorem states them.
-/
import Derived.Test.YtahohnhmdlndfaaExactOverLimitPlain5
set_option linter.unusedVariables false
set_option linter.unusedSimpArgs false
set_option linter.unusedSectionVars false
set_option linter.unnecessarySimpa false
namespace Go.Proofs.Ytahohnhmdlndfaa
open Go Go.RowKit Go.Proofs Go.Proofs.Ytahohnhmdlndfaa.E
/-! ## OverLimit -/
theorem over_is {ρ : Type} {ends : List Int} {share : Int} {F : List Int → ρ} {b : (List Int × Int → ρ) → (List Int × Int → ρ) → List Int × Int → ρ}
    (hb : ∀ rec k x, b rec k x = bif decide (x.2 < (ends.length : Int)) then bif decide (share < at' ends x.2) then rec (x.1 ++ ([x.2] : List Int), x.2 + 1) else rec (x.1, x.2 + 1) else k (x.1, x.2)) :
    LOOP b (fun x => F x.1) (((ends.length : Int) - 0 : Int).toNat + 1) ([], 0) = F ((irange 0 ends.length).filter (fun i => decide (share < at' ends i))) := by
  have h := LOOP_fori (b := b) (k := fun x => F x.1) (n := (ends.length : Int)) (fun i xs => bif decide (share < at' ends i) then xs ++ [id i] else xs) (fun rec xs i h0 h1 => by
    rw [hb]
    simp only [h1, decide_true, Bool.cond_true, id]
    cases decide (share < at' ends i) <;> rfl) (fun rec xs => by rw [hb]; simp) (((ends.length : Int) - 0 : Int).toNat + 1) 0 [] (by omega) (by omega) (by omega)
  rw [h, fori_collect]
  simp
theorem OverLimit_eq (m : gMine) (flows : List Int) (list : List gSource) (share : Int) : m_impl_OverLimit m flows list share = m_spec_OverLimit m flows list share := by
  simp only [m_impl_OverLimit, m_spec_OverLimit, gasCode_eq, within_eq]
  cases (m_spec_l13Ask m flows list == 1) with
  | true => rfl
  | false =>
    simp only [Bool.cond_false]
    cases m_spec_l00In share 0 1000000 with
    | false => rfl
    | true =>
      simp only [Bool.not_true, Bool.cond_false]
      cases hc : (m_spec_l13Ask m flows list != 0) with
      | true => rfl
      | false =>
        have h := l13Ask_imp (by simpa using hc)
        simp only [Bool.cond_false]
        have e := ends_eq (list := list) h.1 h.2.1
        rw [over_is (b := m_impl_OverLimit_b1 m flows list share) (F := fun x => (x, 0)) (share := share) (ends := m_impl_Mine_endShares m flows list (m_impl_Mine_junctionShares m flows list)) (fun rec k x => rfl)]
        simp only [m_spec_l13Over]
        rw [over_is (b := m_spec_l13Over_b1 m flows list share) (F := fun x => x) (share := share) (ends := m_spec_l13Ends m flows list) (fun rec k x => rfl), e]
theorem OverLimit_len (m : gMine) (flows : List Int) (list : List gSource) (share : Int) : (m_spec_OverLimit m flows list share).1.length ≤ 1048576 := by
  simp only [m_spec_OverLimit]
  cases (m_spec_l13Ask m flows list == 1) with
  | true => simp
  | false =>
    simp only [Bool.cond_false]
    cases m_spec_l00In share 0 1000000 with
    | false => simp
    | true =>
      simp only [Bool.not_true, Bool.cond_false]
      cases hc : (m_spec_l13Ask m flows list != 0) with
      | true => simp
      | false =>
        have h := l13Ask_imp (by simpa using hc)
        simp only [Bool.cond_false, m_spec_l13Over]
        rw [over_is (b := m_spec_l13Over_b1 m flows list share) (F := fun x => x) (share := share) (ends := m_spec_l13Ends m flows list) (fun rec k x => rfl)]
        have h1 := List.length_filter_le (fun i => decide (share < at' (m_spec_l13Ends m flows list) i)) (irange 0 (m_spec_l13Ends m flows list).length)
        have h2 : (m_spec_l13Ends m flows list).length = m.Airways.length := by rw [ends_is h.2.1]; simp [irange_len]
        rw [irange_len] at h1
        have := h.1.2.1
        omega

end Go.Proofs.Ytahohnhmdlndfaa
