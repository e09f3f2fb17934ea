/-
  PLAIN LAWS about the models: no program in sight. Conditions: as each theorem states them.
-/
import Derived.Test.YtbflomopgofkgaaExactApplyChangesPlain9
set_option linter.unusedVariables false
set_option linter.unusedSimpArgs false
set_option linter.unusedSectionVars false
set_option linter.unnecessarySimpa false
namespace Go.Proofs.Ytbflomopgofkgaa
open Go Go.RowKit Go.Proofs Go.Proofs.Ytbflomopgofkgaa.E
theorem nx_le (F : Bool) (i : Nat) : i ≤ nx F i := by unfold nx; split <;> omega
theorem at_of {L : List gSetting} {j : Nat} (h : j < L.length) : at' L (j : Int) = L[j] := at_lt h
theorem up_mid {L : List gSetting} (hU : Up L) {e : gSetting} {i : Nat} {F : Bool} (h1 : ∀ j : Int, 0 ≤ j → j < i → Op.bytesLess (at' L j).Name e.Name = true) (h3 : ∀ j : Int, (nx F i : Nat) ≤ j → j < L.length → Op.bytesLess e.Name (at' L j).Name = true) : Up (L.take i ++ [e] ++ L.drop (nx F i)) := by
  have ha : ∀ a ∈ L.take i, Op.bytesLess a.Name e.Name = true := fun a ha => by
    obtain ⟨j, hj, rfl⟩ := List.getElem_of_mem ha
    have hj' : j < i ∧ j < L.length := by rw [List.length_take] at hj; omega
    have := h1 j (by omega) (by omega)
    rw [at_of hj'.2] at this
    rw [List.getElem_take]; exact this
  have hb : ∀ b ∈ L.drop (nx F i), Op.bytesLess e.Name b.Name = true := fun b hb => by
    obtain ⟨j, hj, rfl⟩ := List.getElem_of_mem hb
    have hj' : nx F i + j < L.length := by rw [List.length_drop] at hj; omega
    have := h3 ((nx F i + j : Nat) : Int) (by omega) (by omega)
    rw [at_of hj'] at this
    rw [List.getElem_drop]; exact this
  unfold Up
  rw [List.append_assoc, List.pairwise_append]
  refine ⟨List.Pairwise.sublist (List.take_sublist _ _) hU, ?_, fun a h b hb' => ?_⟩
  · rw [List.singleton_append, List.pairwise_cons]
    exact ⟨hb, List.Pairwise.sublist (List.drop_sublist _ _) hU⟩
  · rw [List.singleton_append, List.mem_cons] at hb'
    rcases hb' with rfl | h'
    · exact ha a h
    · exact bless_trans (ha a h) (hb b h')
theorem up_cut {L : List gSetting} (hU : Up L) (i j : Nat) (hij : i ≤ j) : Up (L.take i ++ L.drop j) := by
  refine List.Pairwise.sublist ?_ hU
  conv => rhs; rw [← List.take_append_drop i L]
  refine List.Sublist.append (List.Sublist.refl _) ?_
  rw [show j = i + (j - i) by omega, ← List.drop_drop]
  exact List.drop_sublist _ _
theorem at27_at {L : List gSetting} (hU : Up L) {e : gSetting} {i : Nat} {F : Bool} (hi : i ≤ L.length) (h1 : ∀ j : Int, 0 ≤ j → j < i → Op.bytesLess (at' L j).Name e.Name = true) (h2 : ∀ j : Int, i ≤ j → j < L.length → Op.bytesLess (at' L j).Name e.Name = false)
    (hF : (decide ((i : Int) < L.length) && ((at' L i).Name == e.Name)) = F) : m_spec_l27At L e.Name = if F then (i : Int) else -1 := by
  have hne := same_at hU h1 h2 hF
  rcases at27_is L e.Name with ⟨h, hall⟩ | ⟨⟨g0, g1⟩, hh⟩
  · cases F with
    | false => rw [h]; rfl
    | true =>
      simp only [Bool.and_eq_true, decide_eq_true_eq] at hF
      have := hall i (by omega) hF.1
      rw [hF.2] at this; exact absurd this (by simp)
  · rw [hne _ g0 g1, Bool.and_eq_true, decide_eq_true_eq] at hh
    rw [hh.2, if_pos rfl]; exact hh.1
theorem state_up {L : List gSetting} (h : m_spec_l27State L = true) : Up L ∧ L.length ≤ 24 := by
  obtain ⟨hs, hl⟩ := (state_all L).1 h
  have hst : ∀ j : Nat, j + 1 < L.length → Op.bytesLess (at' L (j : Int)).Name (at' L ((j + 1 : Nat) : Int)).Name = true := fun j hj => by
    have := hs (j + 1) (by omega) (by omega)
    simp only [Bool.or_eq_false_iff, Bool.not_eq_false', Bool.and_eq_false_iff, decide_eq_false_iff_not, strB_geq'] at this
    rcases this.2 with h' | h'
    · omega
    · rw [show (((j + 1 : Nat) : Int) - 1) = (j : Int) by omega] at h'; exact h'
  have hup : ∀ (d j : Nat), ∀ h : j + d + 1 < L.length, Op.bytesLess (at' L (j : Int)).Name (at' L ((j + d + 1 : Nat) : Int)).Name = true := fun d => by
    induction d with
    | zero => intro j hj; exact hst j hj
    | succ d ih => intro j hj; exact bless_trans (ih j (by omega)) (hst (j + d + 1) hj)
  refine ⟨List.pairwise_iff_getElem.2 fun i j hi hj hij => ?_, hl⟩
  have := hup (j - i - 1) i (by omega)
  rw [show i + (j - i - 1) + 1 = j by omega, at_of hi, at_of hj] at this
  exact this
theorem put_is {L : List gSetting} {i : Nat} {e : gSetting} (h : i < L.length) : put' L (i : Int) e = L.take i ++ [e] ++ L.drop (i + 1) := by
  simp only [put', Int.toNat_natCast]
  rw [List.set_eq_take_append_cons_drop, if_pos h, List.append_assoc, List.singleton_append]
theorem apply_loop (list : List gSetting) (changes : List gChange) (z : Int) (L : List gSetting) (hU : Up L) (hl : L.length ≤ 24) :
    LOOP (m_impl_ApplyChanges_b1 list changes) (fun (x1 : (List gSetting) × Int) => (x1.1, 0)) (((changes.length : Int) - 0 : Int).toNat + 1) (L, 0) = LOOP (m_spec_ApplyChanges_b2 list changes z) (fun (x2 : (List gSetting) × Int) => (x2.1, 0)) (((changes.length : Int) - 0 : Int).toNat + 1) (L, 0) := by
  refine LOOP_sim (fun (x y : List gSetting × Int) => x = y ∧ 0 ≤ x.2 ∧ x.2 ≤ changes.length ∧ Up x.1 ∧ x.1.length ≤ 24) (fun x => ((changes.length : Int) - x.2).toNat) (fun x => ((changes.length : Int) - x.2).toNat) (fun rec₁ rec₂ x₁ x₂ hR ih => ?_) _ _ _ _ ⟨rfl, by simp, by simp, hU, hl⟩ (by simp) (by simp)
  obtain ⟨he, g0, g1, hU, hl⟩ := hR
  subst he
  obtain ⟨L, q⟩ := x₁
  simp only at g0 g1 hU hl
  simp only [m_impl_ApplyChanges_b1, m_spec_ApplyChanges_b2]
  by_cases hq : q < (changes.length : Int)
  · simp only [hq, decide_true, Bool.cond_true]
    generalize at' changes q = c
    obtain ⟨i, hi, h1, h2, hbs⟩ := bs_is (x := L) (by omega) hU c.Setting
    rw [hbs]
    have hset := set27_is hU c.Setting i hi h1 h2
    generalize hF : (decide ((i : Int) < L.length) && ((at' L i).Name == c.Setting.Name)) = F at hset
    have hat := at27_at hU hi h1 h2 hF
    have hne := same_at hU h1 h2 hF
    have hFi : F = true → i < L.length := fun h => by rw [← hF] at h; simp only [Bool.and_eq_true, decide_eq_true_eq] at h; omega
    have hup : Up (L.take i ++ [c.Setting] ++ L.drop (nx F i)) := up_mid hU h1 fun j a b => by
      have hij := nx_le F i
      have h3 := hne j (by omega) b
      have h4 : (decide (j = (i : Int)) && F) = false := by
        cases hF' : F with
        | false => simp
        | true => subst hF'; simp only [nx, if_true] at a; simp; omega
      have h5 := bytes_tri (at' L j).Name c.Setting.Name
      rw [h2 j (by omega) b, h3, h4] at h5
      simpa using h5
    have hlen : (L.take i ++ [c.Setting] ++ L.drop (nx F i)).length = if F then L.length else L.length + 1 := by
      cases hF' : F with
      | false => simp [nx]; omega
      | true => have := hFi hF'; simp [nx]; omega
    cases hK : (c.Kind == 1) with
    | true =>
      simp only [Bool.true_and, Bool.cond_true]
      rw [hset]
      cases hF' : F with
      | true =>
        subst hF'
        have hil := hFi rfl
        simp only [if_true] at hlen
        have h24 : ¬ (24 : Int) < ((L.take i ++ [c.Setting] ++ L.drop (nx true i)).length : Int) := by omega
        simp only [h24, decide_false, Bool.cond_true, Bool.cond_false]
        rw [put_is hil]
        exact ih _ _ ⟨rfl, by simp only; omega, by simp only; omega, hup, by rw [show i + 1 = nx true i from rfl, hlen]; exact hl⟩ (by simp only; omega) (by simp only; omega)
      | false =>
        subst hF'
        simp only [Bool.false_eq_true, if_false] at hlen
        simp only [Bool.cond_false]
        rw [hlen]
        by_cases h24 : L.length = 24
        · have a1 : ((L.length : Int) == 24) = true := by rw [h24]; rfl
          have a2 : (24 : Int) < ((L.length + 1 : Nat) : Int) := by omega
          simp only [a1, a2, decide_true, Bool.cond_true]
        · have a1 : ((L.length : Int) == 24) = false := by simp; omega
          have a2 : ¬ (24 : Int) < ((L.length + 1 : Nat) : Int) := by omega
          simp only [a1, a2, decide_false, Bool.cond_false]
          rw [insertS_is ⟨by omega, by omega⟩]
          have hins : ins L (i : Int) [c.Setting] = L.take i ++ [c.Setting] ++ L.drop (nx false i) := by simp [ins, nx]
          rw [hins]
          exact ih _ _ ⟨rfl, by simp only; omega, by simp only; omega, hup, by rw [hlen]; omega⟩ (by simp only; omega) (by simp only; omega)
    | false =>
      simp only [Bool.false_and, Bool.cond_false]
      rw [hat]
      cases hF' : F with
      | false => rfl
      | true =>
        subst hF'
        have hil := hFi rfl
        have hn : ¬ ((i : Int) < 0) := by omega
        simp only [if_true, Bool.not_true, Bool.cond_false, hn, decide_false]
        generalize (strB .eql (at' L (i : Int)).Name c.Setting.Name && (((at' L (i : Int)).Value == c.Setting.Value) && true)) = same
        cases same with
        | false => rfl
        | true =>
          simp only [Bool.not_true, Bool.cond_false]
          have hw := wr64 (n := (i : Int) + 1) (by omega)
          rw [hw, deleteS_is (by omega), cut_drop]
          rw [show ((i : Int) + 1).toNat = i + 1 by omega, show ((i : Int)).toNat = i by omega, List.nil_append, show pre' L (i : Int) = L.take i by simp [pre']]
          exact ih _ _ ⟨rfl, by simp only; omega, by simp only; omega, up_cut hU _ _ (by omega), by simp only [List.length_append, List.length_take, List.length_drop]; omega⟩ (by simp only; omega) (by simp only; omega)
  · simp only [hq, decide_false, Bool.cond_false]
theorem chg_bad (c : gChange) : m_impl_ApplyChanges_1 c = !(m_spec_l27Change c) := by
  simp only [m_impl_ApplyChanges_1, m_spec_l27Change, setting_eq, m_spec_l00In]
  cases m_spec_l27Setting c.Setting with
  | false => simp
  | true =>
    simp only [Bool.not_true, Bool.or_false, Bool.and_true]
    rw [Bool.eq_iff_iff]
    simp only [Bool.and_eq_true, bne_iff_ne, Bool.not_eq_true', Bool.and_eq_false_iff, decide_eq_false_iff_not]
    omega
theorem idxC_is (s : List gChange) (p : gChange → Bool) : (m_slices_IndexFunc_impl_Change s p = -1 ∧ ∀ j, 0 ≤ j → j < (s.length : Int) → p (at' s j) = false) ∨ ((0 ≤ m_slices_IndexFunc_impl_Change s p ∧ m_slices_IndexFunc_impl_Change s p < s.length) ∧ p (at' s (m_slices_IndexFunc_impl_Change s p)) = true) := by
  simp only [m_slices_IndexFunc_impl_Change]
  refine LOOP_post (fun (x : Int) => (0 ≤ x ∧ x ≤ s.length) ∧ ∀ q, 0 ≤ q → q < x → p (at' s q) = false) (fun x => ((s.length : Int) - x).toNat) (fun _ (r : Int) => (r = -1 ∧ ∀ j, 0 ≤ j → j < (s.length : Int) → p (at' s j) = false) ∨ ((0 ≤ r ∧ r < s.length) ∧ p (at' s r) = true)) (fun rec x hI ih => ?_) _ _ ⟨⟨by omega, by omega⟩, fun q h1 h2 => by omega⟩ (by omega)
  obtain ⟨⟨h0, h1⟩, h2⟩ := hI
  simp only [m_slices_IndexFunc_impl_Change_b1]
  by_cases hi : x < (s.length : Int)
  · simp only [hi, decide_true, Bool.cond_true]
    cases hq : p (at' s x) with
    | true => exact .inr ⟨⟨h0, hi⟩, hq⟩
    | false =>
      refine ih _ ⟨⟨by omega, by omega⟩, fun q g1 g2 => ?_⟩ (by omega)
      by_cases e : q = x
      · subst e; exact hq
      · exact h2 q g1 (by omega)
  · simp only [hi, decide_false, Bool.cond_false]
    exact .inl ⟨by first | rfl | trivial, fun j g1 g2 => h2 j g1 (by omega)⟩
theorem contains_is (s : List gChange) (p : gChange → Bool) : m_slices_ContainsFunc_impl_Change s p = s.any p := by
  simp only [m_slices_ContainsFunc_impl_Change]
  rcases idxC_is s p with ⟨h, hall⟩ | ⟨⟨g0, g1⟩, hp⟩
  · rw [h]
    have : s.any p = false := by
      rw [List.any_eq_false]
      intro x hx
      obtain ⟨j, hj, rfl⟩ := List.getElem_of_mem hx
      have := hall j (by omega) (by omega)
      rw [at_lt hj] at this
      rw [this]; simp
    rw [this]; rfl
  · rw [decide_eq_true g0]
    symm
    rw [List.any_eq_true]
    exact ⟨_, at_mem ⟨g0, g1⟩, hp⟩
theorem chg_loop (list : List gSetting) (changes : List gChange) (K : Int → (List gSetting) × Int) : LOOP (m_spec_ApplyChanges_b1 list changes) K (((changes.length : Int) - 0 : Int).toNat + 1) 0 = bif changes.any (fun c => !(m_spec_l27Change c)) then (([] : List gSetting), 1) else K (changes.length : Int) := by
  refine LOOP_is (fun (x : Int) => 0 ≤ x ∧ x ≤ changes.length) (fun x => ((changes.length : Int) - x).toNat) (fun x => bif (changes.drop x.toNat).any (fun c => !(m_spec_l27Change c)) then (([] : List gSetting), 1) else K (changes.length : Int)) (fun rec x hI ih => ?_) ⟨by omega, by omega⟩ (by omega)
  obtain ⟨h0, h1⟩ := hI
  simp only [m_spec_ApplyChanges_b1]
  by_cases hx : x < (changes.length : Int)
  · have hlt : x.toNat < changes.length := by omega
    have hat : at' changes x = changes[x.toNat] := by
      have := at_lt (xs := changes) (j := x.toNat) hlt
      rwa [Int.toNat_of_nonneg h0] at this
    simp only [hx, decide_true, Bool.cond_true, hat]
    rw [List.drop_eq_getElem_cons hlt, List.any_cons]
    cases hb : m_spec_l27Change changes[x.toNat] with
    | false => rfl
    | true =>
      simp only [Bool.not_true, Bool.cond_false, Bool.false_or]
      rw [ih (x + 1) ⟨by omega, by omega⟩ (by omega), show (x + 1).toNat = x.toNat + 1 by omega]
  · have : x = changes.length := by omega
    subst this
    simp [hx]
theorem ApplyChanges_eq (list : List gSetting) (changes : List gChange) : m_impl_ApplyChanges list changes = m_spec_ApplyChanges list changes := by
  simp only [m_impl_ApplyChanges, m_spec_ApplyChanges, state_eq, contains_is, chg_loop]
  have hbad : (fun (a0 : gChange) => m_impl_ApplyChanges_1 a0) = fun c => !(m_spec_l27Change c) := funext chg_bad
  rw [hbad]
  cases hs : m_spec_l27State list with
  | false => rfl
  | true =>
    simp only [Bool.not_true, Bool.false_or, Bool.cond_false]
    cases changes.any (fun c => !(m_spec_l27Change c)) with
    | true => rfl
    | false =>
      simp only [Bool.cond_false]
      obtain ⟨hU, hl⟩ := state_up hs
      have hc : m_slices_Clone_impl_Setting list = list := by simp [m_slices_Clone_impl_Setting]
      rw [hc, List.nil_append]
      exact apply_loop list changes _ list hU hl
theorem ApplyChanges_len (list : List gSetting) (changes : List gChange) : (m_spec_ApplyChanges list changes).1.length ≤ 1048576 := by
  simp only [m_spec_ApplyChanges, chg_loop]
  cases hs : m_spec_l27State list with
  | false => simp
  | true =>
    simp only [Bool.not_true, Bool.cond_false]
    cases changes.any (fun c => !(m_spec_l27Change c)) with
    | true => simp
    | false =>
      simp only [Bool.cond_false]
      refine Nat.le_trans (m := 24) ?_ (by omega)
      refine LOOP_post (fun (x : (List gSetting) × Int) => x.1.length ≤ 24 ∧ 0 ≤ x.2 ∧ x.2 ≤ changes.length) (fun x => ((changes.length : Int) - x.2).toNat) (fun _ (r : (List gSetting) × Int) => r.1.length ≤ 24) (fun rec x hI ih => ?_) _ _ ⟨by rw [List.nil_append]; exact (state_up hs).2, by simp, by simp⟩ (by simp)
      obtain ⟨L, q⟩ := x
      obtain ⟨h0, h1, h2⟩ := hI
      simp only at h0 h1 h2
      simp only [m_spec_ApplyChanges_b2]
      by_cases hq : q < (changes.length : Int)
      · simp only [hq, decide_true, Bool.cond_true]
        generalize at' changes q = c
        cases (c.Kind == 1) with
        | true =>
          simp only [Bool.cond_true]
          by_cases h24 : (24 : Int) < ((m_spec_l27Set L c.Setting).length : Int)
          · simp [h24]
          · simp only [h24, decide_false, Bool.cond_false]
            exact ih _ ⟨by simp only; omega, by simp only; omega, by simp only; omega⟩ (by simp only; omega)
        | false =>
          simp only [Bool.cond_false]
          have hr := at27_rng L c.Setting.Name
          by_cases hn : m_spec_l27At L c.Setting.Name < 0
          · simp [hn]
          · simp only [hn, decide_false, Bool.cond_false]
            generalize (strB .eql (at' L (m_spec_l27At L c.Setting.Name)).Name c.Setting.Name && (((at' L (m_spec_l27At L c.Setting.Name)).Value == c.Setting.Value) && true)) = same
            cases same with
            | false => simp
            | true =>
              simp only [Bool.not_true, Bool.cond_false]
              have hw := wr64 (n := m_spec_l27At L c.Setting.Name + 1) (by omega)
              rw [hw, cut_drop]
              exact ih _ ⟨by simp only [pre', List.length_append, List.length_take, List.length_drop, List.length_nil]; omega, by simp only; omega, by simp only; omega⟩ (by simp only; omega)
      · simp only [hq, decide_false, Bool.cond_false]; exact h0

end Go.Proofs.Ytbflomopgofkgaa
