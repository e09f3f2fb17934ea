/-
  PLAIN LAWS about the models: no program in sight. Conditions: as each theorem states them.
-/
import Derived.Test.YtandefcnbemclaaDoorExactPermitTextPlain3
set_option linter.unusedVariables false
set_option linter.unusedSimpArgs false
set_option linter.unusedSectionVars false
set_option linter.unnecessarySimpa false
namespace Go.Proofs.YtandefcnbemclaaDoor
open Go Go.RowKit Go.Proofs Go.Proofs.YtandefcnbemclaaDoor.E
/-! ## Lists of numbers as text -/
theorem joinTail_len {sep : List UInt8} {N : Nat} : ∀ {r : List (List UInt8)}, (∀ y ∈ r, y.length ≤ N) → (Lib.joinTail sep r).length ≤ r.length * (sep.length + N)
  | [], _ => by simp [Lib.joinTail]
  | y :: r, h => by
    have ih := joinTail_len (sep := sep) (N := N) (r := r) (fun z hz => h z (by simp [hz]))
    have h1 := h y (by simp)
    simp only [Lib.joinTail, List.map_cons, List.flatten_cons, List.length_append, List.length_cons] at ih ⊢
    rw [Nat.succ_mul]; omega
theorem join_len {sep : List UInt8} {N : Nat} {xs : List (List UInt8)} (h : ∀ y ∈ xs, y.length ≤ N) : (Lib.join xs sep).length ≤ xs.length * (sep.length + N) := by
  cases xs with
  | nil => simp [Lib.join_nil]
  | cons x r =>
    rw [Lib.join_cons]
    have h1 := joinTail_len (sep := sep) (fun z hz => h z (by simp [hz]) : ∀ z ∈ r, z.length ≤ N)
    have h2 := h x (by simp)
    simp only [List.length_append, List.length_cons]
    rw [Nat.succ_mul]; omega
theorem Lib_join_len {xs : List (List UInt8)} (h : (xs.length : Int) ≤ 64) (h2 : ∀ y ∈ xs, y.length ≤ 20) : (Lib.join xs [44]).length ≤ 140737488355328 := by
  have := join_len (sep := [44]) h2
  simp only [List.length_cons, List.length_nil] at this
  omega
theorem join_snoc {sep y : List UInt8} {xs : List (List UInt8)} (h : xs ≠ []) : Lib.join (xs ++ [y]) sep = Lib.join xs sep ++ sep ++ y := by
  cases xs with
  | nil => exact absurd rfl h
  | cons x r =>
    rw [List.cons_append, Lib.join_cons, Lib.join_cons]
    simp [Lib.joinTail]
theorem texts_add {xs : List (List UInt8)} {n : Int} (h : ∀ y ∈ xs, y.length ≤ 20) (h1 : -1000000000000 ≤ n) (h2 : n ≤ 1000000000000) : ∀ y ∈ xs ++ [m_impl_Decimal n], y.length ≤ 20 := by
  intro y hy
  rcases List.mem_append.1 hy with hy | hy
  · exact h y hy
  · simp only [List.mem_singleton] at hy; subst hy; exact itoa_len (by omega)
theorem two_in {a b : Int} {l h : Int} (ha : l ≤ a ∧ a ≤ h) (hb : l ≤ b ∧ b ≤ h) : ∀ y ∈ ([a, b] : List Int), l ≤ y ∧ y ≤ h := by
  intro y hy; simp only [List.mem_cons, List.not_mem_nil, or_false] at hy; rcases hy with rfl | rfl <;> assumption
theorem three_in {a b c : Int} {l h : Int} (ha : l ≤ a ∧ a ≤ h) (hb : l ≤ b ∧ b ≤ h) (hc : l ≤ c ∧ c ≤ h) : ∀ y ∈ ([a, b, c] : List Int), l ≤ y ∧ y ≤ h := by
  intro y hy; simp only [List.mem_cons, List.not_mem_nil, or_false] at hy; rcases hy with rfl | rfl | rfl <;> assumption
/-- the reference's text of a list -/
theorem ls_eq {list : List Int} (hl : list.length ≤ 1000000) (h : ∀ y ∈ list, -9223372036854775808 ≤ y ∧ y ≤ 9223372036854775807) (hne : list ≠ []) : m_spec_l01List list = Lib.join (list.map Lib.itoa) [44] := by
  have hz : ((list.length : Int) == 0) = false := by
    have : list.length ≠ 0 := fun e => hne (List.length_eq_zero_iff.1 e)
    simp; exact hne
  simp only [m_spec_l01List, hz, Bool.cond_false]
  refine LOOP_is (fun (x : List UInt8 × Int) => 0 ≤ x.2 ∧ x.2 ≤ list.length ∧ x.1 = Lib.join ((list.take x.2.toNat).map Lib.itoa) [44]) (fun x => ((list.length : Int) - x.2).toNat) (fun _ => Lib.join (list.map Lib.itoa) [44]) (fun rec x hI ih => ?_) ⟨by simp, by simp, by simp [Lib.join_nil]⟩ (by simp)
  obtain ⟨o, i⟩ := x
  obtain ⟨h1, h2, h3⟩ := hI
  simp only at h1 h2 h3
  simp only [m_spec_l01List_b1, JN]
  by_cases hi : i < (list.length : Int)
  · simp only [hi, decide_true, Bool.cond_true]
    have hlt : i.toNat < list.length := by omega
    have hat : at' list i = list[i.toNat] := by simp [at', List.getD_eq_getElem?_getD, List.getElem?_eq_getElem hlt]
    have hd : m_spec_l01Dec (at' list i) = Lib.itoa list[i.toNat] := by rw [hat]; exact dec_eq _ (h _ (List.getElem_mem hlt))
    have htk : list.take (i + 1).toNat = list.take i.toNat ++ [list[i.toNat]] := by
      have e : (i + 1).toNat = i.toNat + 1 := by omega
      rw [e, List.take_succ_eq_append_getElem hlt]
    have fin : ∀ v : List UInt8, v ++ m_spec_l01Dec (at' list i) = Lib.join ((list.take (i + 1).toNat).map Lib.itoa) [44] → rec (v ++ m_spec_l01Dec (at' list i), i + 1) = Lib.join (list.map Lib.itoa) [44] := fun v hv =>
      ih _ ⟨by simp only; omega, by simp only; omega, by simp only; exact hv⟩ (by simp only; omega)
    by_cases hp : 0 < i
    · simp only [hp, decide_true, Bool.cond_true]
      refine fin _ ?_
      rw [hd, htk, List.map_append, List.map_cons, List.map_nil, join_snoc (by simp; constructor <;> omega), ← h3]
    · simp only [hp, decide_false, Bool.cond_false]
      refine fin _ ?_
      have h0 : i.toNat = 0 := by omega
      rw [hd, htk, h3]
      simp only [h0, List.take_zero, List.map_nil, List.nil_append, List.map_cons, Lib.join_nil, Lib.join_one]
  · simp only [hi, decide_false, Bool.cond_false]
    rw [h3, List.take_of_length_le (by omega)]
theorem ls_len {list : List Int} (hl : list.length ≤ 64) (h : ∀ y ∈ list, -9223372036854775808 ≤ y ∧ y ≤ 9223372036854775807) : (m_spec_l01List list).length ≤ 1400 := by
  by_cases hne : list = []
  · subst hne; simp [m_spec_l01List]
  · rw [ls_eq (by omega) h hne]
    have := join_len (sep := [44]) (N := 20) (xs := list.map Lib.itoa) (fun y hy => by obtain ⟨a, ha, rfl⟩ := List.mem_map.1 hy; exact itoa_len (h a ha))
    simp only [List.length_map, List.length_cons, List.length_nil] at this
    omega
/-- the program's text of a list -/
theorem listText_eq {list : List Int} (hl : list.length ≤ 64) (h : ∀ y ∈ list, -1000000000000 ≤ y ∧ y ≤ 1000000000000) (hne : list ≠ []) : m_impl_ListText list = Lib.join (list.map Lib.itoa) [44] := by
  have hz : ((list.length : Int) == 0) = false := by simp; exact hne
  have hd : ¬ 64 < (list.length : Int) := by omega
  simp only [m_impl_ListText, hz, hd, decide_false, Bool.cond_false]
  refine LOOP_is (fun (x : List (List UInt8) × Int) => 0 ≤ x.2 ∧ x.2 ≤ list.length ∧ x.1 = (list.take x.2.toNat).map Lib.itoa) (fun x => ((list.length : Int) - x.2).toNat) (fun _ => Lib.join (list.map Lib.itoa) [44]) (fun rec x hI ih => ?_) ⟨by simp, by simp, by simp⟩ (by simp)
  obtain ⟨o, i⟩ := x
  obtain ⟨h1, h2, h3⟩ := hI
  simp only at h1 h2 h3
  simp only [m_impl_ListText_b1]
  by_cases hi : i < (list.length : Int)
  · have hlt : i.toNat < list.length := by omega
    have hat : at' list i = list[i.toNat] := by simp [at', List.getD_eq_getElem?_getD, List.getElem?_eq_getElem hlt]
    have hw : m_impl_within (at' list i) (-1000000000000) 1000000000000 = true := by
      have := h _ (List.getElem_mem hlt); simp only [m_impl_within, hat, Bool.and_eq_true, decide_eq_true_eq]; omega
    simp only [hi, decide_true, Bool.cond_true, hw, Bool.not_true, Bool.cond_false]
    refine ih _ ⟨by simp only; omega, by simp only; omega, ?_⟩ (by simp only; omega)
    have e : (i + 1).toNat = i.toNat + 1 := by omega
    simp only
    rw [e, List.take_succ_eq_append_getElem hlt, List.map_append, ← h3, hat]; rfl
  · simp only [hi, decide_false, Bool.cond_false, m_strings_Join]
    rw [h3, List.take_of_length_le (by omega)]
theorem ListText_len (list : List Int) : (m_impl_ListText list).length ≤ 1400 := by
  by_cases hl : 64 < (list.length : Int)
  · simp [m_impl_ListText, hl]
  by_cases hne : list = []
  · subst hne; simp [m_impl_ListText]
  have hz : ((list.length : Int) == 0) = false := by simp; exact hne
  simp only [m_impl_ListText, hl, hz, decide_false, Bool.cond_false]
  refine LOOP_post (fun x : List (List UInt8) × Int => 0 ≤ x.2 ∧ (x.1.length : Int) ≤ x.2 ∧ x.2 ≤ list.length ∧ ∀ y ∈ x.1, y.length ≤ 20) (fun x => ((list.length : Int) - x.2).toNat) (fun _ (r : List UInt8) => r.length ≤ 1400) (fun rec x hI ih => ?_) _ _ ⟨by simp, by simp, by simp, by simp⟩ (by simp)
  obtain ⟨o, i⟩ := x
  obtain ⟨h1, h2, h3, h4⟩ := hI
  simp only at h1 h2 h3 h4
  simp only [m_impl_ListText_b1]
  by_cases hi : i < (list.length : Int)
  · simp only [hi, decide_true, Bool.cond_true]
    cases hw : m_impl_within (at' list i) (-1000000000000) 1000000000000 with
    | false => simp
    | true =>
      simp only [Bool.not_true, Bool.cond_false]
      have := within_imp hw
      exact ih _ ⟨by simp only; omega, by simp only [List.length_append, List.length_cons, List.length_nil]; omega, by simp only; omega, texts_add h4 this.1 this.2⟩ (by simp only; omega)
  · simp only [hi, decide_false, Bool.cond_false, m_strings_Join]
    have := join_len (sep := [44]) h4
    simp only [List.length_cons, List.length_nil] at this
    omega
theorem text_eq {list : List Int} (hl : list.length ≤ 64) (h : ∀ y ∈ list, -1000000000000 ≤ y ∧ y ≤ 1000000000000) (hne : list ≠ []) : m_impl_ListText list = m_spec_l01List list := by
  rw [listText_eq hl h hne, ls_eq (by omega) (fun y hy => by have := h y hy; omega) hne]

end Go.Proofs.YtandefcnbemclaaDoor
