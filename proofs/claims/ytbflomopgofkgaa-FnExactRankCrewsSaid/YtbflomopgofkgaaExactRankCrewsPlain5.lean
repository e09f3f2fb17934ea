/-
  PLAIN LAWS about the models: no program in sight. Conditions: as each theorem states them.
-/
import Derived.Test.YtbflomopgofkgaaExactRankCrewsPlain4
set_option linter.unusedVariables false
set_option linter.unusedSimpArgs false
set_option linter.unusedSectionVars false
set_option linter.unnecessarySimpa false
namespace Go.Proofs.Ytbflomopgofkgaa
open Go Go.RowKit Go.Proofs Go.Proofs.Ytbflomopgofkgaa.E
/-! ## Drills: both models judge alike -/
theorem drill_eq (c : gDrill) : m_impl_Drill_valid c = m_spec_l28One c := by
  simp only [m_impl_Drill_valid, m_spec_l28One, m_spec_l28Day, name_eq]; rfl
theorem cmpI_eq (x y : Int) : m_cmp_Compare_int64 x y = if x < y then -1 else if y < x then 1 else 0 := by
  have hn : ∀ z : Int, m_cmp_isNaN_int64 z = false := fun z => by simp [m_cmp_isNaN_int64]
  simp only [m_cmp_Compare_int64, hn, Bool.cond_false]
  by_cases h1 : x < y
  · simp [h1]
  · by_cases h2 : y < x <;> simp [h1, h2]
theorem cmpS_eq (x y : List UInt8) : (0 ≤ m_cmp_Compare_string x y) ↔ strB .lss x y = false := by
  have hn : ∀ z : List UInt8, m_cmp_isNaN_string z = false := fun z => by simp [m_cmp_isNaN_string, strB_neq_self]
  simp only [m_cmp_Compare_string, hn, Bool.cond_false]
  cases h1 : strB .lss x y with
  | true => simp
  | false => cases h2 : strB .gtr x y <;> simp
theorem or_two (a b : Int) : m_cmp_Or_int ([a, b] : List Int) = if a = 0 then b else a := by
  have e0 : at' ([a, b] : List Int) 0 = a := rfl
  have e1 : at' ([a, b] : List Int) 1 = b := rfl
  have hL : m_cmp_Or_int ([a, b] : List Int) = bif a != 0 then a else bif b != 0 then b else 0 := rfl
  rw [hL]
  by_cases ha : a = 0
  · subst ha
    by_cases hb : b = 0
    · subst hb; rfl
    · have : (b != 0) = true := by simpa using hb
      rw [this]; rfl
  · have : (a != 0) = true := by simpa using ha
    rw [this, if_neg ha]; rfl
theorem before_eq (a b : gDrill) : decide (0 ≤ m_impl_compareDrills a b) = !(m_spec_l28Before a b) := by
  simp only [m_impl_compareDrills, or_two, cmpI_eq, m_spec_l28Before]
  rw [Bool.eq_iff_iff]
  simp only [decide_eq_true_eq, Bool.not_eq_true', Bool.or_eq_false_iff, decide_eq_false_iff_not, Bool.and_eq_false_iff, beq_eq_false_iff_ne, ne_eq]
  by_cases h1 : a.Day < b.Day
  · simp [h1]
  · by_cases h2 : b.Day < a.Day
    · have h3 : ¬ a.Day = b.Day := by omega
      simp [h1, h2, h3]
    · have h3 : a.Day = b.Day := by omega
      simp only [h3, Int.lt_irrefl, if_false, if_true, not_false_eq_true, true_and, not_true_eq_false, false_or]
      exact cmpS_eq _ _
theorem drills_eq (list : List gDrill) : m_impl_ValidDrills list = m_spec_l28Ok list := by
  simp only [m_impl_ValidDrills, m_spec_l28Ok]
  have hb : m_impl_ValidDrills_b1 list = m_spec_l28Ok_b1 list := by
    funext rec k x
    simp only [m_impl_ValidDrills_b1, m_spec_l28Ok_b1, drill_eq, before_eq]
  rw [hb]
  by_cases h : 32 < (list.length : Int)
  · have h' : ¬ (list.length : Int) ≤ 32 := by omega
    simp only [h, decide_true, Bool.cond_true, h', decide_false]
    have := (LOOP_all (b := m_spec_l28Ok_b1 list) (n := list.length) (bad := fun i => (!(m_spec_l28One (at' list i))) || ((decide (0 < i)) && (!(m_spec_l28Before (at' list (i - 1)) (at' list i))))) (fun rec k i _ => rfl) (k := fun _ => false) (((list.length : Int) - 0 : Int).toNat + 1) 0 (by omega) (by omega) (by omega))
    cases hL : LOOP (m_spec_l28Ok_b1 list) (fun _ => false) (((list.length : Int) - 0 : Int).toNat + 1) 0 with
    | false => rfl
    | true => have := (this.1 hL).2; simp at this
  · have h' : (list.length : Int) ≤ 32 := by omega
    simp only [h, decide_false, Bool.cond_false, h', decide_true]
theorem drillsOk_imp {list : List gDrill} (h : m_spec_l28Ok list = true) : list.length ≤ 32 ∧ ∀ x ∈ list, m_spec_l28One x = true := by
  simp only [m_spec_l28Ok] at h
  have := (LOOP_all (b := m_spec_l28Ok_b1 list) (n := list.length) (bad := fun i => (!(m_spec_l28One (at' list i))) || ((decide (0 < i)) && (!(m_spec_l28Before (at' list (i - 1)) (at' list i))))) (fun rec k i _ => rfl) (k := fun _ => decide ((list.length : Int) ≤ 32)) (((list.length : Int) - 0 : Int).toNat + 1) 0 (by omega) (by omega) (by omega)).1 h
  refine ⟨by have := this.2; simp only [decide_eq_true_eq] at this; omega, ?_⟩
  rw [all_at (Q := fun x => m_spec_l28One x = true)]
  intro j hj
  have := this.1 j (by omega) hj
  simp only [Bool.or_eq_false_iff, Bool.not_eq_false'] at this
  exact this.1
theorem one_sec {x : gDrill} (h : m_spec_l28One x = true) : 0 ≤ x.Seconds ∧ x.Seconds ≤ 36000 := by
  simp only [m_spec_l28One, m_spec_l00In, Bool.and_eq_true, decide_eq_true_eq] at h
  omega

end Go.Proofs.Ytbflomopgofkgaa
