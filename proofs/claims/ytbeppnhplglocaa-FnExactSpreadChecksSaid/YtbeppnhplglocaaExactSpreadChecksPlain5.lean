/-
  PLAIN LAWS about the models: no program in sight. Conditions: as each theorem states them.
-/
import Derived.Test.YtbeppnhplglocaaExactSpreadChecksPlain4
set_option linter.unusedVariables false
set_option linter.unusedSimpArgs false
set_option linter.unusedSectionVars false
set_option linter.unnecessarySimpa false
namespace Go.Proofs.Ytbeppnhplglocaa
open Go Go.RowKit Go.Proofs Go.Proofs.Ytbeppnhplglocaa.E
/-! ## Checks -/
theorem check_eq (e : gCheck) : m_impl_Check_valid e = m_spec_l25One e := by
  simp only [m_impl_Check_valid, m_spec_l25One, name_eq, m_impl_checkDay, within_eq]
theorem checks_all (list : List gCheck) : m_spec_l25Ok list = true ↔ (∀ j : Nat, (0 : Int) ≤ j → j < list.length → ((!(m_spec_l25One (at' list j))) || ((decide ((0 : Int) < j)) && (strB .geq (at' list ((j : Int) - 1)).Id (at' list j).Id))) = false) ∧ list.length ≤ 16 := by
  have h2 := LOOP_all (b := m_spec_l25Ok_b1 list) (n := list.length) (fun rec k i _ => rfl) (k := fun _ => decide ((list.length : Int) ≤ 16)) (((list.length : Int) - 0 : Int).toNat + 1) 0 (by omega) (by omega) (by omega)
  simp only [m_spec_l25Ok]
  rw [h2]
  simp only [decide_eq_true_eq]
  constructor
  · rintro ⟨a, b⟩; exact ⟨a, by omega⟩
  · rintro ⟨a, b⟩; exact ⟨a, by omega⟩
theorem checks_eq (list : List gCheck) : m_impl_ValidChecks list = m_spec_l25Ok list := by
  rw [Bool.eq_iff_iff, checks_all]
  have h1 := LOOP_all (b := m_impl_ValidChecks_b1 list) (n := list.length) (fun rec k i _ => rfl) (k := fun _ => true) (((list.length : Int) - 0 : Int).toNat + 1) 0 (by omega) (by omega) (by omega)
  simp only [m_impl_ValidChecks]
  by_cases hl : 16 < (list.length : Int)
  · simp only [hl, decide_true, Bool.cond_true]
    constructor
    · intro h; exact absurd h (by simp)
    · rintro ⟨_, h⟩; omega
  · simp only [hl, decide_false, Bool.cond_false]
    rw [h1]
    simp only [check_eq, strleq_geq, and_true]
    constructor
    · intro h; exact ⟨h, by omega⟩
    · rintro ⟨h, _⟩; exact h
def CkIn (list : List gCheck) : Prop := list.length ≤ 16 ∧ ∀ y ∈ list, (1 ≤ y.Every ∧ y.Every ≤ 365) ∧ 0 ≤ y.Last ∧ y.Last ≤ 100000
theorem checks_in {list : List gCheck} (h : m_spec_l25Ok list = true) : CkIn list := by
  have h1 := (checks_all list).1 h
  refine ⟨h1.2, all_at.2 fun j hj => ?_⟩
  have h2 := h1.1 j (by omega) hj
  simp only [Bool.or_eq_false_iff, Bool.not_eq_false'] at h2
  have h3 := h2.1
  simp only [m_spec_l25One, Bool.and_eq_true] at h3
  have h4 := l00In_imp h3.2
  have h5 := l00In_imp h3.1.2
  exact ⟨h5, h4.1, h4.2⟩
theorem checks_inI {list : List gCheck} (h : m_impl_ValidChecks list = true) : CkIn list := checks_in (by rw [← checks_eq]; exact h)
theorem ckOk_impA {list : List gCheck} (h : m_spec_l25Ok list = true) : CkIn list := checks_in h
theorem ckOk_impB {list : List gCheck} (h : m_spec_l25Ok list = true) : list.length ≤ 16 := (checks_in h).1
theorem ckVal_impA {list : List gCheck} (h : m_impl_ValidChecks list = true) : CkIn list := checks_inI h
theorem ckVal_impB {list : List gCheck} (h : m_impl_ValidChecks list = true) : list.length ≤ 16 := (checks_inI h).1
theorem ckDay_imp {n : Int} (h : m_spec_l25Day n = true) : 0 ≤ n ∧ n ≤ 100000 := l00In_imp h
theorem ckDayI_imp {n : Int} (h : m_impl_checkDay n = true) : 0 ≤ n ∧ n ≤ 100000 := within_imp h
theorem ck_due {list : List gCheck} (h : CkIn list) {i : Int} (hi : 0 ≤ i ∧ i < list.length) : 1 ≤ (at' list i).Every ∧ (at' list i).Every ≤ 365 ∧ 0 ≤ (at' list i).Last ∧ (at' list i).Last ≤ 100000 := by
  have := at_all h.2 hi
  exact ⟨this.1.1, this.1.2, this.2.1, this.2.2⟩
/-! ## Steps of the walk -/
theorem swap_at {xs : List Int} {i j : Int} (hi : 0 ≤ i ∧ i < xs.length) (hj : 0 ≤ j ∧ j < xs.length) (hij : i ≠ j) (q : Int) (hq : 0 ≤ q) : at' (put' (put' xs i (at' xs j)) j (at' xs i)) q = if q = j then at' xs i else if q = i then at' xs j else at' xs q := by
  by_cases h1 : q = j
  · subst h1; simp only [if_true]; exact put_at (by rw [put_len]; exact hj)
  · rw [if_neg h1, put_at_ne hj.1 hq (fun h => h1 h.symm)]
    by_cases h2 : q = i
    · subst h2; simp only [if_true]; exact put_at hi
    · rw [if_neg h2, put_at_ne hi.1 hq (fun h => h2 h.symm)]
theorem swap_all {xs : List Int} {i j : Int} {R : Int → Prop} (h : ∀ x ∈ xs, R x) (hi : 0 ≤ i ∧ i < xs.length) (hj : 0 ≤ j ∧ j < xs.length) (hij : i ≠ j) : ∀ x ∈ put' (put' xs i (at' xs j)) j (at' xs i), R x := by
  refine all_at.2 fun q hq => ?_
  rw [put_len, put_len] at hq
  rw [swap_at hi hj hij q (by omega)]
  by_cases h1 : (q : Int) = j
  · rw [if_pos h1]; exact at_all h hi
  · rw [if_neg h1]
    by_cases h2 : (q : Int) = i
    · rw [if_pos h2]; exact at_all h hj
    · rw [if_neg h2]; exact at_all h (by omega)
theorem put_all {xs : List Int} {i v : Int} {R : Int → Prop} (h : ∀ x ∈ xs, R x) (hv : R v) : ∀ x ∈ put' xs i v, R x := by
  intro x hx
  rcases List.mem_or_eq_of_mem_set hx with h1 | h1
  · exact h x h1
  · rw [h1]; exact hv
/-- how many numbers are negative -/
def negc (xs : List Int) : Int := ((xs.filter (fun y => decide (y < 0))).length : Int)
theorem negc_app (xs : List Int) : negc (xs ++ [-1]) = negc xs + 1 := by simp [negc]
theorem negc_nil : negc [] = 0 := rfl
theorem negc_put : ∀ {xs : List Int} {i : Nat} {v : Int}, i < xs.length → xs.getD i default < 0 → 0 ≤ v → negc (xs.set i v) = negc xs - 1
  | [], _, _, h, _, _ => by simp at h
  | x :: xs, 0, v, _, h1, h2 => by
    simp only [List.getD_cons_zero] at h1
    have : ¬ v < 0 := by omega
    simp [negc, h1, this]
  | x :: xs, i + 1, v, h, h1, h2 => by
    have ih := negc_put (xs := xs) (i := i) (v := v) (by simpa using h) (by simpa using h1) h2
    simp only [negc] at ih
    by_cases hx : x < 0
    · simp only [negc, List.set_cons_succ, List.filter_cons, hx, decide_true, if_true, List.length_cons]; omega
    · simp only [negc, List.set_cons_succ, List.filter_cons, hx, decide_false]; simpa using ih
theorem negc_put' {xs : List Int} {i v : Int} (hi : 0 ≤ i ∧ i < xs.length) (h1 : at' xs i < 0) (h2 : 0 ≤ v) : negc (put' xs i v) = negc xs - 1 := negc_put (by omega) h1 h2
theorem negc_none {xs : List Int} (h : ∀ j, 0 ≤ j → j < (xs.length : Int) → ¬ at' xs j < 0) : negc xs = 0 := by
  have : xs.filter (fun y => decide (y < 0)) = [] := by
    rw [List.filter_eq_nil_iff]
    refine all_at.2 fun j hj => ?_
    have := h j (by omega) (by omega)
    simpa using this
  simp [negc, this]
/-- the best place so far -/
def BestI (xs : List Int) (b i : Int) : Prop := (b = -1 ∧ ∀ j, 0 ≤ j → j < i → ¬ at' xs j < 0) ∨ (0 ≤ b ∧ b < i ∧ at' xs b < 0)
theorem BestI.rng {xs : List Int} {b i : Int} (h : BestI xs b i) : -1 ≤ b ∧ b < i ∨ b = -1 := by
  rcases h with ⟨h, _⟩ | ⟨h1, h2, _⟩ <;> omega
theorem BestI.nil {xs : List Int} : BestI xs (-1) 0 := .inl ⟨rfl, fun j h1 h2 => by omega⟩
theorem BestI.take {xs : List Int} {i : Int} (h0 : 0 ≤ i) (h : at' xs i < 0) : BestI xs i (i + 1) := .inr ⟨h0, by omega, h⟩
theorem BestI.skip {xs : List Int} {b i : Int} (hb : BestI xs b i) (h : ¬ (at' xs i < 0 ∧ b < 0)) : BestI xs b (i + 1) := by
  rcases hb with ⟨h1, h2⟩ | ⟨h1, h2, h3⟩
  · refine .inl ⟨h1, fun j g1 g2 hn => ?_⟩
    by_cases e : j = i
    · subst e; exact h ⟨hn, by omega⟩
    · exact h2 j g1 (by omega) hn
  · exact .inr ⟨h1, by omega, h3⟩
theorem BestI.done {xs : List Int} {b i : Int} (h : BestI xs b i) (hl : (xs.length : Int) = i) (hn : 0 < negc xs) : 0 ≤ b ∧ b < i ∧ at' xs b < 0 := by
  rcases h with ⟨h1, h2⟩ | h
  · have := negc_none (xs := xs) (fun j g1 g2 => h2 j g1 (by omega)); omega
  · exact h

end Go.Proofs.Ytbeppnhplglocaa
