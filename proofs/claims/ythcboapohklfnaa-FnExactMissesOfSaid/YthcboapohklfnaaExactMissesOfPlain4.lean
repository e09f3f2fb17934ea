/-
  PLAIN LAWS about the models: no program in sight. Conditions: as each theorem states them.
-/
import Derived.Test.YthcboapohklfnaaExactMissesOfPlain3
set_option linter.unusedVariables false
set_option linter.unusedSimpArgs false
set_option linter.unusedSectionVars false
set_option linter.unnecessarySimpa false
namespace Go.Proofs.Ythcboapohklfnaa
open Go Go.RowKit Go.Proofs Go.Proofs.Ythcboapohklfnaa.E
/-! ## MissesOf -/
def WantsIn (m : gMine) (list : List gWant) : Prop := list.length ≤ 12 ∧ ∀ x ∈ list, (0 ≤ x.Airway ∧ x.Airway < m.Airways.length) ∧ (-100000 ≤ x.Least ∧ x.Least ≤ 100000) ∧ x.Least ≤ x.Most ∧ x.Most ≤ 100000
theorem want_eq (x : gWant) : m_impl_Want_valid x = m_spec_l21One x := by
  simp only [m_impl_Want_valid, m_spec_l21One, m_impl_flowOk, m_spec_l03Flow, within_eq]
theorem one21_imp {x : gWant} (h : m_spec_l21One x = true) : 0 ≤ x.Airway ∧ (-100000 ≤ x.Least ∧ x.Least ≤ 100000) ∧ x.Least ≤ x.Most ∧ x.Most ≤ 100000 := by
  simp only [m_spec_l21One, m_spec_l03Flow, m_spec_l00In, Bool.and_eq_true, decide_eq_true_eq] at h; omega
theorem l21Wants_iff {m : gMine} {list : List gWant} : m_spec_l21Wants m list = true ↔ (∀ x ∈ list, m_spec_l21One x = true ∧ x.Airway < m.Airways.length) ∧ list.length ≤ 12 := by
  have h := LOOP_all (b := m_spec_l21Wants_b1 m list) (n := list.length) (fun rec k i _ => rfl) (k := fun _ => decide ((list.length : Int) ≤ 12)) (((list.length : Int) - 0 : Int).toNat + 1) 0 (by omega) (by omega) (by omega)
  simp only [m_spec_l21Wants]
  rw [h]
  simp only [Bool.or_eq_false_iff, Bool.not_eq_false', decide_eq_false_iff_not, decide_eq_true_eq]
  constructor
  · rintro ⟨h1, h2⟩
    exact ⟨all_at.2 fun j hj => by have := h1 j (by omega) hj; exact ⟨this.1, by have := this.2; omega⟩, by omega⟩
  · rintro ⟨h1, h2⟩
    exact ⟨fun j _ hj => by have := at_all h1 (i := (j : Int)) ⟨by omega, by omega⟩; exact ⟨this.1, by have := this.2; omega⟩, by omega⟩
theorem wants_eq (m : gMine) (list : List gWant) : m_impl_ValidWants m list = (m_spec_l04Ok m && m_spec_l21Wants m list) := by
  simp only [m_impl_ValidWants, mine_eq, Bool.and_assoc]
  congr 1
  rw [Bool.eq_iff_iff, l21Wants_iff, Bool.and_eq_true, decide_eq_true_eq, Bool.not_eq_true', ← Bool.not_eq_true, cf_impl_Want]
  simp only [m_impl_ValidWants_1, want_eq, index_eq, Bool.or_eq_true, Bool.not_eq_true', Bool.and_eq_false_iff, decide_eq_false_iff_not]
  constructor
  · rintro ⟨h1, h2⟩
    refine ⟨fun x hx => ?_, by omega⟩
    refine Decidable.byContradiction fun hn => h2 ⟨x, hx, ?_⟩
    by_cases ho : m_spec_l21One x = true
    · right; right; intro hl; exact hn ⟨ho, hl⟩
    · left; simpa using ho
  · rintro ⟨h1, h2⟩
    refine ⟨by omega, ?_⟩
    rintro ⟨x, hx, h3⟩
    have h4 := h1 x hx
    have h5 := one21_imp h4.1
    rcases h3 with h3 | h3 | h3
    · rw [h4.1] at h3; simp at h3
    · omega
    · exact h3 h4.2
theorem l21Flows_eq (m : gMine) (flows : List Int) : m_spec_l07Flows m flows = m_impl_Mine_hasFlows m flows := by
  rw [Bool.eq_iff_iff, hasFlows_iff]
  exact flows_all (fun rec k i _ => rfl)
theorem wantsCode_eq (m : gMine) (flows : List Int) (list : List gWant) : m_impl_wantsCode m flows list = m_spec_l21Ask m flows list := by
  simp only [m_impl_wantsCode, m_spec_l21Ask, wants_eq, l21Flows_eq, Bool.not_and]
theorem l21Ask_imp {m : gMine} {flows : List Int} {list : List gWant} (h : m_spec_l21Ask m flows list = 0) : FlowsIn m flows ∧ WantsIn m list := by
  simp only [m_spec_l21Ask, l21Flows_eq] at h
  cases h1 : m_spec_l04Ok m <;> cases h2 : m_spec_l21Wants m list <;> cases h3 : m_impl_Mine_hasFlows m flows <;> simp [h1, h2, h3] at h
  have h4 := l21Wants_iff.1 h2
  exact ⟨hasFlows_imp h3, h4.2, fun x hx => by have := h4.1 x hx; have := one21_imp this.1; omega⟩
theorem l21Ask_impF {m : gMine} {flows : List Int} {list : List gWant} (h : m_spec_l21Ask m flows list = 0) : FlowsIn m flows := (l21Ask_imp h).1
theorem l21Ask_impW {m : gMine} {flows : List Int} {list : List gWant} (h : m_spec_l21Ask m flows list = 0) : WantsIn m list := (l21Ask_imp h).2
theorem l21Ask_impN {m : gMine} {flows : List Int} {list : List gWant} (h : m_spec_l21Ask m flows list = 0) : list.length ≤ 12 := (l21Ask_imp h).2.1
theorem wantsCode_impF {m : gMine} {flows : List Int} {list : List gWant} (h : m_impl_wantsCode m flows list = 0) : FlowsIn m flows := l21Ask_impF (by rw [← wantsCode_eq]; exact h)
theorem wantsCode_impW {m : gMine} {flows : List Int} {list : List gWant} (h : m_impl_wantsCode m flows list = 0) : WantsIn m list := l21Ask_impW (by rw [← wantsCode_eq]; exact h)
theorem wantsCode_impN {m : gMine} {flows : List Int} {list : List gWant} (h : m_impl_wantsCode m flows list = 0) : list.length ≤ 12 := l21Ask_impN (by rw [← wantsCode_eq]; exact h)
theorem want_in {m : gMine} {flows : List Int} {list : List gWant} (hf : FlowsIn m flows) (hw : WantsIn m list) {i : Int} (hi : 0 ≤ i ∧ i < list.length) : 0 ≤ (at' list i).Airway ∧ (at' list i).Airway < flows.length := by
  have h := at_all hw.2 hi
  have := hf.1
  omega
theorem miss_eq (flows : List Int) (x : gWant) : m_impl_Want_miss x flows = m_spec_l21Miss flows x := by
  simp only [m_impl_Want_miss, m_spec_l21Miss, m_spec_l00Max]
  generalize IntKind.wrap .i64 (x.Least - at' flows x.Airway) = a
  generalize IntKind.wrap .i64 (at' flows x.Airway - x.Most) = b
  by_cases h : b < a
  · have h1 : ¬ a < b := by omega
    by_cases h2 : a < 0
    · simp [h, h1, h2]
    · by_cases h3 : a = 0
      · subst h3; simp [h1, h]
      · have : 0 < a := by omega
        have h4 : ¬ a < 0 := h2
        simp [h, h1, h4] <;> omega
  · by_cases h1 : a < b
    · by_cases h2 : b < 0
      · simp [h, h1, h2]
      · simp [h, h1, h2] <;> omega
    · have e : a = b := by omega
      subst e
      by_cases h2 : a < 0
      · simp [h2]
      · simp [h2] <;> omega
theorem MissesOf_eq (m : gMine) (flows : List Int) (list : List gWant) : m_impl_MissesOf m flows list = m_spec_MissesOf m flows list := by
  simp only [m_impl_MissesOf, m_spec_MissesOf, wantsCode_eq]
  cases hc : (m_spec_l21Ask m flows list != 0) with
  | true => rfl
  | false =>
    simp only [Bool.cond_false, m_spec_l21Misses]
    have h1 := LOOP_fori (b := m_impl_MissesOf_b1 m flows list) (k := fun (x1 : List Int × Int) => (x1.1, (0 : Int))) (n := (list.length : Int)) (fun i xs => bif decide (0 < m_spec_l21Miss flows (at' list i)) then xs ++ [i] else xs) (fun rec xs i h0 hi => by
      simp only [m_impl_MissesOf_b1, hi, decide_true, Bool.cond_true, miss_eq]
      cases decide (0 < m_spec_l21Miss flows (at' list i)) <;> rfl) (fun rec xs => by simp [m_impl_MissesOf_b1]) (((list.length : Int) - 0 : Int).toNat + 1) 0 [] (by omega) (by omega) (by omega)
    have h2 := LOOP_fori (b := m_spec_l21Misses_b1 flows list) (k := fun (x1 : List Int × Int) => x1.1) (n := (list.length : Int)) (fun i xs => bif decide (0 < m_spec_l21Miss flows (at' list i)) then xs ++ [i] else xs) (fun rec xs i h0 hi => by
      simp only [m_spec_l21Misses_b1, hi, decide_true, Bool.cond_true]
      cases decide (0 < m_spec_l21Miss flows (at' list i)) <;> rfl) (fun rec xs => by simp [m_spec_l21Misses_b1]) (((list.length : Int) - 0 : Int).toNat + 1) 0 [] (by omega) (by omega) (by omega)
    rw [h1, h2]
theorem MissesOf_len (m : gMine) (flows : List Int) (list : List gWant) : (m_spec_MissesOf m flows list).1.length ≤ 1048576 := by
  simp only [m_spec_MissesOf]
  cases hc : (m_spec_l21Ask m flows list != 0) with
  | true => simp
  | false =>
    have hn := l21Ask_impN (m := m) (flows := flows) (list := list) (by simpa using hc)
    simp only [Bool.cond_false, m_spec_l21Misses]
    refine LOOP_post (fun (x : List Int × Int) => 0 ≤ x.2 ∧ x.2 ≤ list.length ∧ (x.1.length : Int) ≤ x.2) (fun x => ((list.length : Int) - x.2).toNat) (fun _ (r : List Int) => r.length ≤ 1048576) ?_ _ _ ⟨by dsimp only; omega, by dsimp only; omega, by simp⟩ (by dsimp only; omega)
    rintro rec ⟨a, i⟩ ⟨h0, hl, hn2⟩ ih
    dsimp only at h0 hl hn2 ih ⊢
    simp only [m_spec_l21Misses_b1]
    by_cases hi : i < list.length
    · simp only [hi, decide_true, Bool.cond_true]
      cases decide (0 < m_spec_l21Miss flows (at' list i)) with
      | true => exact ih _ ⟨by dsimp only; omega, by dsimp only; omega, by simp; omega⟩ (by dsimp only; omega)
      | false => exact ih _ ⟨by dsimp only; omega, by dsimp only; omega, by dsimp only; omega⟩ (by dsimp only; omega)
    · simp only [hi, decide_false, Bool.cond_false]; omega

end Go.Proofs.Ythcboapohklfnaa
