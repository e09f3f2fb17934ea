/-
  PLAIN LAWS about the models: no program in sight. Conditions: as each theorem states them.
-/
import Derived.Test.YtbeppnhplglocaaExactDropPermitPlain6
set_option linter.unusedVariables false
set_option linter.unusedSimpArgs false
set_option linter.unusedSectionVars false
set_option linter.unnecessarySimpa false
namespace Go.Proofs.Ytbeppnhplglocaa
open Go Go.RowKit Go.Proofs Go.Proofs.Ytbeppnhplglocaa.E
/-! ## DropPermit -/
theorem held_mark_permit {a : List gPermit} (h : a.length ≤ 1048576) : m_laws_heldPermitS (m_laws_markPermitS a 1).2 1 = (m_laws_markPermitS a 1).1 ∧ ¬ (m_laws_markPermitS a 1).1 < 0 := by
  have w : ∀ kk : Int, 0 ≤ kk → kk ≤ 9223372036854770000 → IntKind.wrap .i64 (kk + 1) = kk + 1 ∧ IntKind.wrap .i64 (kk + 1 + 1) = kk + 2 ∧ IntKind.wrap .i64 (kk + 2 + 1) = kk + 3 ∧ IntKind.wrap .i64 (kk + 3 + 1) = kk + 4 ∧ IntKind.wrap .i64 (kk + 4 + 1) = kk + 5 := fun kk h0 h1 => by
    rw [wr64 (n := kk + 1) (by omega), wr64 (n := kk + 1 + 1) (by omega), wr64 (n := kk + 2 + 1) (by omega), wr64 (n := kk + 3 + 1) (by omega), wr64 (n := kk + 4 + 1) (by omega)]; omega
  have e : m_laws_markPermitS a 1 = (1 + 5 * (a.length : Int), (irange 0 a.length).map (fun j => gPermit.mk (m_laws_markText (1 + 5 * j)) (1 + 5 * j + 1) (1 + 5 * j + 2) (1 + 5 * j + 3) (1 + 5 * j + 4))) :=
    LOOP_markt (f := fun kk => gPermit.mk (m_laws_markText kk) (kk + 1) (kk + 2) (kk + 3) (kk + 4)) (s := 5) (b := m_laws_markPermitS_b1 a 1) (k := fun x => (x.2.1, x.1)) (by omega) 1 (by omega) (fun rec xs kk i h0 h1 h2 h3 => by have := w kk h2 h3; simp only [m_laws_markPermitS_b1, h1, decide_true, Bool.cond_true]; rw [this.1, this.2.1, this.2.2.1, this.2.2.2.1, this.2.2.2.2]) (fun rec xs kk i h1 => by simp only [m_laws_markPermitS_b1, h1, decide_false, Bool.cond_false]) (fun _ => rfl) (((a.length : Int) - 0 : Int).toNat + 1) a 0 (by omega) (by omega) (by omega) (by omega) (fun j h1 h2 => by omega)
  rw [e]
  refine ⟨?_, by simp only []; omega⟩
  generalize hL : (irange 0 a.length).map (fun j => gPermit.mk (m_laws_markText (1 + 5 * j)) (1 + 5 * j + 1) (1 + 5 * j + 2) (1 + 5 * j + 3) (1 + 5 * j + 4)) = L
  have hl : L.length = a.length := by rw [← hL, List.length_map, irange_len]
  have := LOOP_heldt (f := fun kk => gPermit.mk (m_laws_markText kk) (kk + 1) (kk + 2) (kk + 3) (kk + 4)) (s := 5) (L := L) (b := m_laws_heldPermitS_b1 L 1) (k := fun x => x.1) (n := a.length) (by omega) 1 (by omega) (by omega) hL.symm (fun rec kk i h0 h1 h2 h3 h4 => by have := w kk h2 h3; simp only [m_laws_heldPermitS_b1, hl, h1, decide_true, Bool.cond_true, h4, strB_neq_self, Bool.cond_false]; rw [this.1, this.2.1, this.2.2.1, this.2.2.2.1, this.2.2.2.2]; simp) (fun rec kk i h1 => by simp only [m_laws_heldPermitS_b1, hl, h1, decide_false, Bool.cond_false]) (fun _ => rfl) (((a.length : Int) - 0 : Int).toNat + 1) 0 (by omega) (by omega) (by omega)
  simp only [m_laws_heldPermitS, hl]
  exact this
theorem delete_is {s : List gPermit} {i j : Int} (h : 0 ≤ i ∧ i < j ∧ j ≤ s.length) : (m_slices_Delete_impl_Permit s i j).1 = s.take i.toNat ++ s.drop j.toNat := by
  have hij : (i == j) = false := by simp; omega
  simp only [m_slices_Delete_impl_Permit, hij, Bool.cond_false]
  have e1 : (pre' s i).length = i.toNat := by simp only [pre', List.length_take]; omega
  have e2 : cut' s j (s.length : Int) = s.drop j.toNat := by
    simp only [cut']; rw [List.take_of_length_le (by rw [List.length_drop]; omega)]
  rw [e1, e2]
  have e3 : (s.drop j.toNat).length = s.length - j.toNat := List.length_drop
  have e4 : (cpy s i.toNat (s.drop j.toNat)).take (i.toNat + (s.length - j.toNat)) = s.take i.toNat ++ s.drop j.toNat := by
    simp only [cpy]
    rw [List.take_append_of_le_length (by rw [List.length_append, List.length_take, e3]; omega), List.take_of_length_le (by rw [List.length_append, List.length_take, e3]; omega)]
  have e5 : (pre' (cpy s i.toNat (s.drop j.toNat)) (((i.toNat : Nat) : Int) + (((s.drop j.toNat).length : Nat) : Int))).length = i.toNat + (s.length - j.toNat) := by
    simp only [pre', List.length_take, cpy, List.length_append, List.length_drop]; omega
  rw [e5]
  simp only [pre', e3]
  rw [show (((i.toNat : Nat) : Int) + (((s.length - j.toNat) : Nat) : Int)).toNat = i.toNat + (s.length - j.toNat) by omega, show ((((i.toNat + (s.length - j.toNat)) : Nat) : Int)).toNat = i.toNat + (s.length - j.toNat) by omega]
  have e6 : ∀ (A Z : List gPermit) (n : Nat), n ≤ A.length → (cpy A n Z).take n = A.take n := fun A Z n hn => by
    simp only [cpy]
    rw [List.append_assoc, List.take_append_of_le_length (by rw [List.length_take]; omega), List.take_take, Nat.min_self]
  rw [e6 _ _ _ (by simp only [cpy, List.length_append, List.length_take, List.length_drop]; omega), e4]
theorem idxP_is (s : List gPermit) (p : gPermit → Bool) : (m_slices_IndexFunc_impl_Permit s p = -1 ∧ ∀ j, 0 ≤ j → j < (s.length : Int) → p (at' s j) = false) ∨ ((0 ≤ m_slices_IndexFunc_impl_Permit s p ∧ m_slices_IndexFunc_impl_Permit s p < s.length) ∧ p (at' s (m_slices_IndexFunc_impl_Permit s p)) = true) := by
  simp only [m_slices_IndexFunc_impl_Permit]
  refine LOOP_post (fun (x : Int) => (0 ≤ x ∧ x ≤ s.length) ∧ ∀ q, 0 ≤ q → q < x → p (at' s q) = false) (fun x => ((s.length : Int) - x).toNat) (fun _ (r : Int) => (r = -1 ∧ ∀ j, 0 ≤ j → j < (s.length : Int) → p (at' s j) = false) ∨ ((0 ≤ r ∧ r < s.length) ∧ p (at' s r) = true)) (fun rec x hI ih => ?_) _ _ ⟨⟨by omega, by omega⟩, fun q h1 h2 => by omega⟩ (by omega)
  obtain ⟨⟨h0, h1⟩, h2⟩ := hI
  simp only [m_slices_IndexFunc_impl_Permit_b1]
  by_cases hi : x < (s.length : Int)
  · simp only [hi, decide_true, Bool.cond_true]
    cases hq : p (at' s x) with
    | true => exact .inr ⟨⟨h0, hi⟩, hq⟩
    | false =>
      refine ih _ ⟨⟨by omega, by omega⟩, fun q g1 g2 => ?_⟩ (by omega)
      by_cases e : q = x
      · subst e; exact hq
      · exact h2 q g1 (by omega)
  · simp only [hi, decide_false, Bool.cond_false]
    exact .inl ⟨by first | rfl | trivial, fun j g1 g2 => h2 j g1 (by omega)⟩
theorem idxP_rng (s : List gPermit) (p : gPermit → Bool) : -1 ≤ m_slices_IndexFunc_impl_Permit s p ∧ m_slices_IndexFunc_impl_Permit s p < s.length := by
  rcases idxP_is s p with ⟨h, _⟩ | ⟨h, _⟩ <;> omega
theorem bless_trans : ∀ {a b c : List UInt8}, Op.bytesLess a b = true → Op.bytesLess b c = true → Op.bytesLess a c = true
  | [], [], _, h, _ => by simp [Op.bytesLess] at h
  | [], _ :: _, [], _, h => by simp [Op.bytesLess] at h
  | [], _ :: _, _ :: _, _, _ => rfl
  | _ :: _, [], _, h, _ => by simp [Op.bytesLess] at h
  | _ :: _, _ :: _, [], _, h => by simp [Op.bytesLess] at h
  | x :: a, y :: b, z :: c, h1, h2 => by
    have ih := bless_trans (a := a) (b := b) (c := c)
    simp only [Op.bytesLess] at h1 h2 ⊢
    by_cases e1 : x < y
    · by_cases e2 : y < z
      · have := UInt8.lt_trans e1 e2; simp [this]
      · have e3 : y = z := by
          simp only [e2, decide_false, Bool.false_or, Bool.and_eq_true, beq_iff_eq] at h2
          exact h2.1
        subst e3; simp [e1]
    · have e3 : x = y := by
        simp only [e1, decide_false, Bool.false_or, Bool.and_eq_true, beq_iff_eq] at h1
        exact h1.1
      subst e3
      by_cases e2 : x < z
      · simp [e2]
      · simp only [e1, e2, decide_false, Bool.false_or, Bool.and_eq_true, beq_iff_eq] at h1 h2 ⊢
        exact ⟨h2.1, ih h1.2 h2.2⟩
theorem bless_irrefl : ∀ (a : List UInt8), Op.bytesLess a a = false
  | [] => rfl
  | x :: a => by
    simp only [Op.bytesLess, bless_irrefl a]
    simp
theorem ids_up {m : gMine} {list : List gPermit} (hv : m_spec_l26Ok m list = true) : ∀ (d j : Nat), j + d + 1 < list.length → Op.bytesLess (at' list (j : Int)).Id (at' list ((j + d + 1 : Nat) : Int)).Id = true
  | 0, j, h => by
    have := ((l26_all.1 hv).2 (j + 1) h).2.2 (by omega)
    rw [show (((j + 1 : Nat)) : Int) - 1 = (j : Int) by omega] at this
    simpa [strB] using this
  | d + 1, j, h => by
    have h1 := ids_up hv d j (by omega)
    have := ((l26_all.1 hv).2 (j + (d + 1) + 1) h).2.2 (by omega)
    rw [show (((j + (d + 1) + 1 : Nat)) : Int) - 1 = ((j + d + 1 : Nat) : Int) by omega] at this
    exact bless_trans h1 (by simpa [strB] using this)
theorem ids_ne {m : gMine} {list : List gPermit} (hv : m_spec_l26Ok m list = true) {i j : Int} (hi : 0 ≤ i ∧ i < list.length) (hj : 0 ≤ j ∧ j < list.length) (h : i ≠ j) : (at' list i).Id ≠ (at' list j).Id := by
  intro e
  rcases Int.lt_trichotomy i j with h1 | h1 | h1
  · have := ids_up hv (j - i - 1).toNat i.toNat (by omega)
    rw [show ((i.toNat : Nat) : Int) = i by omega, show ((i.toNat + (j - i - 1).toNat + 1 : Nat) : Int) = j by omega, e, bless_irrefl] at this
    simp at this
  · exact h h1
  · have := ids_up hv (i - j - 1).toNat j.toNat (by omega)
    rw [show ((j.toNat : Nat) : Int) = j by omega, show ((j.toNat + (i - j - 1).toNat + 1 : Nat) : Int) = i by omega, e, bless_irrefl] at this
    simp at this
theorem filt_del {list : List gPermit} {id : List UInt8} {k : Nat} (hk : k < list.length) (he : list[k].Id = id) (hu : ∀ j : Nat, ∀ h : j < list.length, j ≠ k → list[j].Id ≠ id) : list.filter (fun y => strB .neq y.Id id) = list.take k ++ list.drop (k + 1) := by
  have h1 : list = list.take k ++ list[k] :: list.drop (k + 1) := by
    rw [List.getElem_cons_drop, List.take_append_drop]
  have ha : ∀ y ∈ list.take k, strB .neq y.Id id = true := fun y hy => by
    obtain ⟨j, hj, e⟩ := List.mem_iff_getElem.1 hy
    rw [List.length_take] at hj
    rw [List.getElem_take] at e
    have := hu j (by omega) (by omega)
    rw [e] at this
    simpa [strB] using this
  have hb : ∀ y ∈ list.drop (k + 1), strB .neq y.Id id = true := fun y hy => by
    obtain ⟨j, hj, e⟩ := List.mem_iff_getElem.1 hy
    rw [List.length_drop] at hj
    rw [List.getElem_drop] at e
    have := hu (k + 1 + j) (by omega) (by omega)
    rw [e] at this
    simpa [strB] using this
  conv => lhs; rw [h1]
  rw [List.filter_append, List.filter_cons, List.filter_eq_self.2 ha, List.filter_eq_self.2 hb, he, strB_neq_self]
  simp
theorem spec_drop {m : gMine} {list : List gPermit} {id : List UInt8} (hv : m_spec_l26Ok m list = true) : m_spec_DropPermit m list id = bif ((list.filter (fun y => strB .neq y.Id id)).length : Int) == (list.length : Int) then (([] : List gPermit), 3) else (list.filter (fun y => strB .neq y.Id id), 0) := by
  simp only [m_spec_DropPermit, hv, Bool.not_true, Bool.cond_false]
  refine LOOP_is (fun (x : List gPermit × Int) => (0 ≤ x.2 ∧ x.2 ≤ list.length) ∧ x.1 = (list.take x.2.toNat).filter (fun y => strB .neq y.Id id)) (fun x => ((list.length : Int) - x.2).toNat) (fun _ => bif ((list.filter (fun y => strB .neq y.Id id)).length : Int) == (list.length : Int) then (([] : List gPermit), 3) else (list.filter (fun y => strB .neq y.Id id), 0)) (fun rec x hI ih => ?_) ⟨⟨by simp, by simp⟩, by simp⟩ (by simp)
  obtain ⟨s, i⟩ := x
  obtain ⟨⟨h0, h1⟩, hA⟩ := hI
  simp only at h0 h1 hA
  simp only [m_spec_DropPermit_b1]
  by_cases hi : i < (list.length : Int)
  · have hlt : i.toNat < list.length := by omega
    have hat : at' list i = list[i.toNat] := by
      have := at_lt (xs := list) (j := i.toNat) hlt
      rwa [Int.toNat_of_nonneg h0] at this
    have htk : list.take (i + 1).toNat = list.take i.toNat ++ [at' list i] := by rw [show (i + 1).toNat = i.toNat + 1 by omega, List.take_succ_eq_append_getElem hlt, hat]
    simp only [hi, decide_true, Bool.cond_true]
    cases hq : strB .neq (at' list i).Id id with
    | true =>
      refine ih _ ⟨⟨by simp only; omega, by simp only; omega⟩, ?_⟩ (by simp only; omega)
      simp only; rw [htk, List.filter_append, hA]; simp [hq]
    | false =>
      refine ih _ ⟨⟨by simp only; omega, by simp only; omega⟩, ?_⟩ (by simp only; omega)
      simp only; rw [htk, List.filter_append, hA]; simp [hq]
  · have he : i = list.length := by omega
    subst he
    simp only [hi, decide_false, Bool.cond_false]
    rw [Int.toNat_natCast, List.take_length] at hA
    rw [hA]
theorem DropPermit_eq (m : gMine) (list : List gPermit) (id : List UInt8) : m_impl_DropPermit m list id = m_spec_DropPermit m list id := by
  cases hv : m_spec_l26Ok m list with
  | false => simp only [m_impl_DropPermit, m_spec_DropPermit, permits_eq, hv]; rfl
  | true =>
    rw [spec_drop hv]
    simp only [m_impl_DropPermit, permits_eq, hv, Bool.not_true, Bool.cond_false]
    have hcl : m_slices_Clone_impl_Permit list = list := by simp [m_slices_Clone_impl_Permit]
    rw [hcl]
    have hl := l26Ok_len hv
    rcases idxP_is list (fun (a0 : gPermit) => m_impl_DropPermit_1 a0 id) with ⟨h1, h2⟩ | ⟨h1, h2⟩
    · rw [h1]
      have hf : list.filter (fun y => strB .neq y.Id id) = list := List.filter_eq_self.2 fun y hy => by
        obtain ⟨j, hj, e⟩ := List.mem_iff_getElem.1 hy
        have := h2 j (by omega) (by omega)
        rw [at_lt hj, e] at this
        simpa [m_impl_DropPermit_1, strB] using this
      rw [hf]
      simp
    · generalize m_slices_IndexFunc_impl_Permit list (fun (a0 : gPermit) => m_impl_DropPermit_1 a0 id) = k at h1 h2
      have hk : k.toNat < list.length := by omega
      have hat : at' list k = list[k.toNat] := by
        have := at_lt (xs := list) (j := k.toNat) hk
        rwa [Int.toNat_of_nonneg h1.1] at this
      have hid : list[k.toNat].Id = id := by
        rw [hat] at h2; simpa [m_impl_DropPermit_1, strB] using h2
      have hf := filt_del hk hid (fun j hj hne he => by
        have := ids_ne hv (i := j) (j := k) ⟨by omega, by omega⟩ h1 (by omega)
        rw [at_lt hj, hat, he, hid] at this
        exact this rfl)
      have hneg : ¬ k < 0 := by omega
      simp only [hneg, decide_false, Bool.cond_false]
      rw [wr64 (n := k + 1) (by omega), delete_is (by omega), hf, show (k + 1).toNat = k.toNat + 1 by omega]
      have hne : ¬ (((list.take k.toNat ++ list.drop (k.toNat + 1)).length : Nat) : Int) = (list.length : Int) := by
        rw [List.length_append, List.length_take, List.length_drop]; omega
      have hne' : ((((list.take k.toNat ++ list.drop (k.toNat + 1)).length : Nat) : Int) == (list.length : Int)) = false := by simpa using hne
      rw [hne']; rfl
theorem DropPermit_len (m : gMine) (list : List gPermit) (id : List UInt8) : (m_spec_DropPermit m list id).1.length ≤ 1048576 := by
  cases hv : m_spec_l26Ok m list with
  | false => simp [m_spec_DropPermit, hv]
  | true =>
    rw [spec_drop hv]
    have hl := l26Ok_len hv
    cases (((list.filter (fun y => strB .neq y.Id id)).length : Int) == (list.length : Int)) with
    | true => simp
    | false =>
      simp only [Bool.cond_false]
      exact Nat.le_trans (List.length_filter_le _ _) (by omega)

end Go.Proofs.Ytbeppnhplglocaa
