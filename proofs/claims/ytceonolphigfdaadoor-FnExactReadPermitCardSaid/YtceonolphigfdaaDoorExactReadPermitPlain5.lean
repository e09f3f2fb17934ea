/-
  PLAIN LAWS about the models: no program in sight. Conditions: as each theorem states them.
-/
import Derived.Test.YtceonolphigfdaaDoorExactReadPermitPlain4
set_option linter.unusedVariables false
set_option linter.unusedSimpArgs false
set_option linter.unusedSectionVars false
set_option linter.unnecessarySimpa false
namespace Go.Proofs.YtceonolphigfdaaDoor
open Go Go.RowKit Go.Proofs Go.Proofs.YtceonolphigfdaaDoor.E
/-! ## Lists of numbers as text -/
theorem joinTail_len {sep : List UInt8} {N : Nat} : ∀ {r : List (List UInt8)}, (∀ y ∈ r, y.length ≤ N) → (Lib.joinTail sep r).length ≤ r.length * (sep.length + N)
  | [], _ => by simp [Lib.joinTail]
  | y :: r, h => by
    have ih := joinTail_len (sep := sep) (N := N) (r := r) (fun z hz => h z (by simp [hz]))
    have h1 := h y (by simp)
    simp only [Lib.joinTail, List.map_cons, List.flatten_cons, List.length_append, List.length_cons] at ih ⊢
    rw [Nat.succ_mul]; omega
theorem join_len {sep : List UInt8} {N : Nat} {xs : List (List UInt8)} (h : ∀ y ∈ xs, y.length ≤ N) : (Lib.join xs sep).length ≤ xs.length * (sep.length + N) := by
  cases xs with
  | nil => simp [Lib.join_nil]
  | cons x r =>
    rw [Lib.join_cons]
    have h1 := joinTail_len (sep := sep) (fun z hz => h z (by simp [hz]) : ∀ z ∈ r, z.length ≤ N)
    have h2 := h x (by simp)
    simp only [List.length_append, List.length_cons]
    rw [Nat.succ_mul]; omega
theorem Lib_join_len {xs : List (List UInt8)} (h : (xs.length : Int) ≤ 64) (h2 : ∀ y ∈ xs, y.length ≤ 20) : (Lib.join xs [44]).length ≤ 140737488355328 := by
  have := join_len (sep := [44]) h2
  simp only [List.length_cons, List.length_nil] at this
  omega
theorem join_snoc {sep y : List UInt8} {xs : List (List UInt8)} (h : xs ≠ []) : Lib.join (xs ++ [y]) sep = Lib.join xs sep ++ sep ++ y := by
  cases xs with
  | nil => exact absurd rfl h
  | cons x r =>
    rw [List.cons_append, Lib.join_cons, Lib.join_cons]
    simp [Lib.joinTail]
theorem texts_add {xs : List (List UInt8)} {n : Int} (h : ∀ y ∈ xs, y.length ≤ 20) (h1 : -1000000000000 ≤ n) (h2 : n ≤ 1000000000000) : ∀ y ∈ xs ++ [m_impl_Decimal n], y.length ≤ 20 := by
  intro y hy
  rcases List.mem_append.1 hy with hy | hy
  · exact h y hy
  · simp only [List.mem_singleton] at hy; subst hy; exact itoa_len (by omega)
theorem two_in {a b : Int} {l h : Int} (ha : l ≤ a ∧ a ≤ h) (hb : l ≤ b ∧ b ≤ h) : ∀ y ∈ ([a, b] : List Int), l ≤ y ∧ y ≤ h := by
  intro y hy; simp only [List.mem_cons, List.not_mem_nil, or_false] at hy; rcases hy with rfl | rfl <;> assumption
theorem three_in {a b c : Int} {l h : Int} (ha : l ≤ a ∧ a ≤ h) (hb : l ≤ b ∧ b ≤ h) (hc : l ≤ c ∧ c ≤ h) : ∀ y ∈ ([a, b, c] : List Int), l ≤ y ∧ y ≤ h := by
  intro y hy; simp only [List.mem_cons, List.not_mem_nil, or_false] at hy; rcases hy with rfl | rfl | rfl <;> assumption
/-- the program's text of a list -/
theorem listText_eq {list : List Int} (hl : list.length ≤ 64) (h : ∀ y ∈ list, -1000000000000 ≤ y ∧ y ≤ 1000000000000) (hne : list ≠ []) : m_impl_ListText list = Lib.join (list.map Lib.itoa) [44] := by
  have hz : ((list.length : Int) == 0) = false := by simp; exact hne
  have hd : ¬ 64 < (list.length : Int) := by omega
  simp only [m_impl_ListText, hz, hd, decide_false, Bool.cond_false]
  refine LOOP_is (fun (x : List (List UInt8) × Int) => 0 ≤ x.2 ∧ x.2 ≤ list.length ∧ x.1 = (list.take x.2.toNat).map Lib.itoa) (fun x => ((list.length : Int) - x.2).toNat) (fun _ => Lib.join (list.map Lib.itoa) [44]) (fun rec x hI ih => ?_) ⟨by simp, by simp, by simp⟩ (by simp)
  obtain ⟨o, i⟩ := x
  obtain ⟨h1, h2, h3⟩ := hI
  simp only at h1 h2 h3
  simp only [m_impl_ListText_b1]
  by_cases hi : i < (list.length : Int)
  · have hlt : i.toNat < list.length := by omega
    have hat : at' list i = list[i.toNat] := by simp [at', List.getD_eq_getElem?_getD, List.getElem?_eq_getElem hlt]
    have hw : m_impl_within (at' list i) (-1000000000000) 1000000000000 = true := by
      have := h _ (List.getElem_mem hlt); simp only [m_impl_within, hat, Bool.and_eq_true, decide_eq_true_eq]; omega
    simp only [hi, decide_true, Bool.cond_true, hw, Bool.not_true, Bool.cond_false]
    refine ih _ ⟨by simp only; omega, by simp only; omega, ?_⟩ (by simp only; omega)
    have e : (i + 1).toNat = i.toNat + 1 := by omega
    simp only
    rw [e, List.take_succ_eq_append_getElem hlt, List.map_append, ← h3, hat]; rfl
  · simp only [hi, decide_false, Bool.cond_false, m_strings_Join]
    rw [h3, List.take_of_length_le (by omega)]
theorem ListText_len (list : List Int) : (m_impl_ListText list).length ≤ 1400 := by
  by_cases hl : 64 < (list.length : Int)
  · simp [m_impl_ListText, hl]
  by_cases hne : list = []
  · subst hne; simp [m_impl_ListText]
  have hz : ((list.length : Int) == 0) = false := by simp; exact hne
  simp only [m_impl_ListText, hl, hz, decide_false, Bool.cond_false]
  refine LOOP_post (fun x : List (List UInt8) × Int => 0 ≤ x.2 ∧ (x.1.length : Int) ≤ x.2 ∧ x.2 ≤ list.length ∧ ∀ y ∈ x.1, y.length ≤ 20) (fun x => ((list.length : Int) - x.2).toNat) (fun _ (r : List UInt8) => r.length ≤ 1400) (fun rec x hI ih => ?_) _ _ ⟨by simp, by simp, by simp, by simp⟩ (by simp)
  obtain ⟨o, i⟩ := x
  obtain ⟨h1, h2, h3, h4⟩ := hI
  simp only at h1 h2 h3 h4
  simp only [m_impl_ListText_b1]
  by_cases hi : i < (list.length : Int)
  · simp only [hi, decide_true, Bool.cond_true]
    cases hw : m_impl_within (at' list i) (-1000000000000) 1000000000000 with
    | false => simp
    | true =>
      simp only [Bool.not_true, Bool.cond_false]
      have := within_imp hw
      exact ih _ ⟨by simp only; omega, by simp only [List.length_append, List.length_cons, List.length_nil]; omega, by simp only; omega, texts_add h4 this.1 this.2⟩ (by simp only; omega)
  · simp only [hi, decide_false, Bool.cond_false, m_strings_Join]
    have := join_len (sep := [44]) h4
    simp only [List.length_cons, List.length_nil] at this
    omega

end Go.Proofs.YtceonolphigfdaaDoor
