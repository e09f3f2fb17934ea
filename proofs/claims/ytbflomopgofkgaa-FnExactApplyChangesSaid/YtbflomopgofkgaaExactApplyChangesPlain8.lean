/-
  PLAIN LAWS about the models: no program in sight. Conditions: as each theorem states them.
-/
import Derived.Test.YtbflomopgofkgaaExactApplyChangesPlain7
set_option linter.unusedVariables false
set_option linter.unusedSimpArgs false
set_option linter.unusedSectionVars false
set_option linter.unnecessarySimpa false
namespace Go.Proofs.Ytbflomopgofkgaa
open Go Go.RowKit Go.Proofs Go.Proofs.Ytbflomopgofkgaa.E
/-! ## Settings in order: a search by halves -/
theorem srch_mid {i j : Int} (h0 : 0 ≤ i) (h1 : i < j) (h2 : j ≤ 1000000) : IntKind.wrap .i64 (Int.fdiv (IntKind.wrap .u64 (IntKind.wrap .i64 (i + j))) (2 ^ min (1 : Int).toNat 64)) = (i + j) / 2 := by
  have e1 : IntKind.wrap .i64 (i + j) = i + j := wr64 (by omega)
  have e2 : IntKind.wrap .u64 (i + j) = i + j := by
    have : IntKind.wrap .u64 (i + j) = (i + j) % 18446744073709551616 := by simp [IntKind.wrap, IntKind.signed, IntKind.bits]
    omega
  have e3 : ((2 : Int) ^ min (1 : Int).toNat 64) = 2 := by decide
  rw [e1, e2, e3, Int.fdiv_eq_ediv_of_nonneg _ (by omega)]
  exact wr64 (by omega)
theorem bless_trans : ∀ {a b c : List UInt8}, Op.bytesLess a b = true → Op.bytesLess b c = true → Op.bytesLess a c = true
  | [], [], _, h, _ => by simp [Op.bytesLess] at h
  | [], _ :: _, [], _, h => by simp [Op.bytesLess] at h
  | [], _ :: _, _ :: _, _, _ => rfl
  | _ :: _, [], _, h, _ => by simp [Op.bytesLess] at h
  | _ :: _, _ :: _, [], _, h => by simp [Op.bytesLess] at h
  | x :: a, y :: b, z :: c, h1, h2 => by
    have ih := bless_trans (a := a) (b := b) (c := c)
    simp only [Op.bytesLess] at h1 h2 ⊢
    by_cases e1 : x < y
    · by_cases e2 : y < z
      · have := UInt8.lt_trans e1 e2; simp [this]
      · have e3 : y = z := by
          simp only [e2, decide_false, Bool.false_or, Bool.and_eq_true, beq_iff_eq] at h2
          exact h2.1
        subst e3; simp [e1]
    · have e3 : x = y := by
        simp only [e1, decide_false, Bool.false_or, Bool.and_eq_true, beq_iff_eq] at h1
        exact h1.1
      subst e3
      by_cases e2 : x < z
      · simp [e2]
      · simp only [e1, e2, decide_false, Bool.false_or, Bool.and_eq_true, beq_iff_eq] at h1 h2 ⊢
        exact ⟨h2.1, ih h1.2 h2.2⟩
theorem bless_irrefl : ∀ (a : List UInt8), Op.bytesLess a a = false
  | [] => rfl
  | x :: a => by
    simp only [Op.bytesLess, bless_irrefl a]
    simp
theorem del_row {α : Type} {s : List α} {i j : Int} (h : 0 ≤ i ∧ i ≤ j ∧ j ≤ s.length) : (cpy s (pre' s i).length (cut' s j (s.length : Int))).length = s.length := by
  simp only [cpy, pre', cut', List.length_append, List.length_take, List.length_drop]; omega
theorem cpy_tail3 {α : Type} {s A : List α} {o : Nat} {z : α} (h : A.length = s.length) : (cpy A o (List.replicate ((s.length : Int).toNat - o) z)).length = A.length := by
  simp only [cpy, List.length_append, List.length_take, List.length_drop, List.length_replicate]; omega
theorem deleteS_is {s : List gSetting} {i j : Int} (h : 0 ≤ i ∧ i < j ∧ j ≤ s.length) : (m_slices_Delete_impl_Setting s i j).1 = s.take i.toNat ++ s.drop j.toNat := by
  have hij : (i == j) = false := by simp; omega
  simp only [m_slices_Delete_impl_Setting, hij, Bool.cond_false]
  have e1 : (pre' s i).length = i.toNat := by simp only [pre', List.length_take]; omega
  have e2 : cut' s j (s.length : Int) = s.drop j.toNat := by
    simp only [cut']; rw [List.take_of_length_le (by rw [List.length_drop]; omega)]
  rw [e1, e2]
  have e3 : (s.drop j.toNat).length = s.length - j.toNat := List.length_drop
  have e4 : (cpy s i.toNat (s.drop j.toNat)).take (i.toNat + (s.length - j.toNat)) = s.take i.toNat ++ s.drop j.toNat := by
    simp only [cpy]
    rw [List.take_append_of_le_length (by rw [List.length_append, List.length_take, e3]; omega), List.take_of_length_le (by rw [List.length_append, List.length_take, e3]; omega)]
  have e5 : (pre' (cpy s i.toNat (s.drop j.toNat)) (((i.toNat : Nat) : Int) + (((s.drop j.toNat).length : Nat) : Int))).length = i.toNat + (s.length - j.toNat) := by
    simp only [pre', List.length_take, cpy, List.length_append, List.length_drop]; omega
  rw [e5]
  simp only [pre', e3]
  rw [show (((i.toNat : Nat) : Int) + (((s.length - j.toNat) : Nat) : Int)).toNat = i.toNat + (s.length - j.toNat) by omega, show ((((i.toNat + (s.length - j.toNat)) : Nat) : Int)).toNat = i.toNat + (s.length - j.toNat) by omega]
  have e6 : ∀ (A Z : List gSetting) (n : Nat), n ≤ A.length → (cpy A n Z).take n = A.take n := fun A Z n hn => by
    simp only [cpy]
    rw [List.append_assoc, List.take_append_of_le_length (by rw [List.length_take]; omega), List.take_take, Nat.min_self]
  rw [e6 _ _ _ (by simp only [cpy, List.length_append, List.length_take, List.length_drop]; omega), e4]
theorem insertS_is {s : List gSetting} {i : Int} {e : gSetting} (h : 0 ≤ i ∧ i ≤ s.length) : (m_slices_Insert_impl_Setting s i ([e] : List gSetting)).1 = ins s i [e] := by
  simp only [m_slices_Insert_impl_Setting]
  by_cases hi : i = (s.length : Int)
  · subst hi
    simp [ins]
  · have hf : (i == (s.length : Int)) = false := by simpa using hi
    rw [hf]
    simp
/-- where the search ends, whatever the order -/
theorem bs_rng {x : List gSetting} (hx : x.length ≤ 1000000) {t : gSetting} {cmp : gSetting → gSetting → Int} :
    0 ≤ (m_slices_BinarySearchFunc_impl_Setting x t cmp).1 ∧ (m_slices_BinarySearchFunc_impl_Setting x t cmp).1 ≤ x.length ∧ ((m_slices_BinarySearchFunc_impl_Setting x t cmp).2 = true → (m_slices_BinarySearchFunc_impl_Setting x t cmp).1 < x.length) := by
  simp only [m_slices_BinarySearchFunc_impl_Setting]
  refine LOOP_post (fun (y : Int × Int) => 0 ≤ y.1 ∧ y.1 ≤ y.2 ∧ y.2 ≤ x.length) (fun y => (y.2 - y.1).toNat) (fun _ (r : Int × Bool) => 0 ≤ r.1 ∧ r.1 ≤ x.length ∧ (r.2 = true → r.1 < x.length)) (fun rec y hI ih => ?_) _ _ ⟨by simp, by simp, by simp⟩ (by simp only; omega)
  obtain ⟨i, j⟩ := y
  obtain ⟨h1, h2, h3⟩ := hI
  simp only at h1 h2 h3
  simp only [m_slices_BinarySearchFunc_impl_Setting_b1]
  by_cases hij : i < j
  · have hm := srch_mid h1 hij (by omega)
    simp only [hij, decide_true, Bool.cond_true, hm]
    rw [wr64 (n := (i + j) / 2 + 1) (by omega)]
    cases (decide (cmp (at' x ((i + j) / 2)) t < 0)) with
    | true => exact ih _ ⟨by simp only; omega, by simp only; omega, by simp only; omega⟩ (by simp only; omega)
    | false => exact ih _ ⟨by simp only; omega, by simp only; omega, by simp only; omega⟩ (by simp only; omega)
  · simp only [hij, decide_false, Bool.cond_false]
    refine ⟨h1, by omega, fun h => ?_⟩
    simp only [Bool.and_eq_true, decide_eq_true_eq] at h
    exact h.1
theorem at27_is (L : List gSetting) (n : List UInt8) : (m_spec_l27At L n = -1 ∧ ∀ j, 0 ≤ j → j < (L.length : Int) → ((at' L j).Name == n) = false) ∨ ((0 ≤ m_spec_l27At L n ∧ m_spec_l27At L n < L.length) ∧ ((at' L (m_spec_l27At L n)).Name == n) = true) := by
  simp only [m_spec_l27At]
  refine LOOP_post (fun (x : Int) => (0 ≤ x ∧ x ≤ L.length) ∧ ∀ q, 0 ≤ q → q < x → ((at' L q).Name == n) = false) (fun x => ((L.length : Int) - x).toNat) (fun _ (r : Int) => (r = -1 ∧ ∀ j, 0 ≤ j → j < (L.length : Int) → ((at' L j).Name == n) = false) ∨ ((0 ≤ r ∧ r < L.length) ∧ ((at' L r).Name == n) = true)) (fun rec x hI ih => ?_) _ _ ⟨⟨by omega, by omega⟩, fun q h1 h2 => by omega⟩ (by omega)
  obtain ⟨⟨h0, h1⟩, h2⟩ := hI
  simp only [m_spec_l27At_b1]
  by_cases hi : x < (L.length : Int)
  · simp only [hi, decide_true, Bool.cond_true, strB]
    cases hq : ((at' L x).Name == n) with
    | true => exact .inr ⟨⟨h0, hi⟩, hq⟩
    | false =>
      refine ih _ ⟨⟨by omega, by omega⟩, fun q g1 g2 => ?_⟩ (by omega)
      by_cases e : q = x
      · subst e; exact hq
      · exact h2 q g1 (by omega)
  · simp only [hi, decide_false, Bool.cond_false]
    exact .inl ⟨by first | rfl | trivial, fun j g1 g2 => h2 j g1 (by omega)⟩
theorem at27_rng (L : List gSetting) (n : List UInt8) : -1 ≤ m_spec_l27At L n ∧ m_spec_l27At L n < L.length := by
  rcases at27_is L n with ⟨h, _⟩ | ⟨h, _⟩ <;> omega
theorem set27_len (L : List gSetting) (e : gSetting) : (m_spec_l27Set L e).length ≤ L.length + 1 := by
  simp only [m_spec_l27Set]
  refine LOOP_post (fun (x : (List gSetting) × Bool × Int) => 0 ≤ x.2.2 ∧ x.2.2 ≤ L.length ∧ (x.1.length : Int) ≤ x.2.2 + (if x.2.1 then 1 else 0)) (fun x => ((L.length : Int) - x.2.2).toNat) (fun _ (r : List gSetting) => r.length ≤ L.length + 1) (fun rec x hI ih => ?_) _ _ ⟨by simp, by simp, by simp⟩ (by simp only; omega)
  obtain ⟨o, b, i⟩ := x
  obtain ⟨h0, h1, h2⟩ := hI
  simp only at h0 h1 h2
  simp only [m_spec_l27Set_b1, JN]
  by_cases hi : i < (L.length : Int)
  · simp only [hi, decide_true, Bool.cond_true]
    have key : ∀ (o' : List gSetting) (b' : Bool), (o'.length : Int) ≤ i + (if b' then 1 else 0) → (bif strB .neq (at' L i).Name e.Name then rec (o' ++ ([at' L i] : List gSetting), b', i + 1) else rec (o', b', i + 1)).length ≤ L.length + 1 := fun o' b' ho => by
      cases strB .neq (at' L i).Name e.Name with
      | true => exact ih _ ⟨by simp only; omega, by simp only; omega, by simp only [List.length_append, List.length_cons, List.length_nil]; omega⟩ (by simp only; omega)
      | false => exact ih _ ⟨by simp only; omega, by simp only; omega, by simp only; omega⟩ (by simp only; omega)
    cases b with
    | true => simp only [Bool.not_true, Bool.false_and, Bool.cond_false]; exact key _ _ h2
    | false =>
      cases hg : strB .geq (at' L i).Name e.Name with
      | true => simp only [Bool.not_false, Bool.true_and, Bool.cond_true]; exact key _ _ (by simp only [List.length_append, List.length_cons, List.length_nil, if_true]; simp at h2; omega)
      | false => simp only [Bool.not_false, Bool.true_and, Bool.cond_false]; exact key _ _ h2
  · simp only [hi, decide_false, Bool.cond_false]
    cases b with
    | true => simp only [Bool.not_true, Bool.cond_false]; simp at h2; omega
    | false => simp only [Bool.not_false, Bool.cond_true, List.length_append, List.length_cons, List.length_nil]; simp at h2; omega
theorem StIn_len {list : List gSetting} (h : StIn list) : list.length ≤ 24 := h.1

end Go.Proofs.Ytbflomopgofkgaa
