/-
  PLAIN LAWS about the models: no program in sight. Conditions: as each theorem states them.
-/
import Derived.Test.YtbflomopgofkgaaExactApplyChangesPlain8
set_option linter.unusedVariables false
set_option linter.unusedSimpArgs false
set_option linter.unusedSectionVars false
set_option linter.unnecessarySimpa false
namespace Go.Proofs.Ytbflomopgofkgaa
open Go Go.RowKit Go.Proofs Go.Proofs.Ytbflomopgofkgaa.E
/-! ## ApplyChanges: the two laws -/
theorem strB_lss (a b : List UInt8) : strB .lss a b = Op.bytesLess a b := rfl
theorem strB_geq' (a b : List UInt8) : strB .geq a b = !Op.bytesLess a b := rfl
theorem strB_neq' (a b : List UInt8) : strB .neq a b = !(a == b) := rfl
theorem isNaN_str (x : List UInt8) : m_cmp_isNaN_string x = false := by simp [m_cmp_isNaN_string, strB]
theorem cmp_less (a b : gSetting) : decide (m_impl_compareSettings a b < 0) = Op.bytesLess a.Name b.Name := by
  simp only [m_impl_compareSettings, m_cmp_Compare_string, isNaN_str, Bool.cond_false, strB_lss]
  cases Op.bytesLess a.Name b.Name with
  | true => rfl
  | false => cases strB .gtr a.Name b.Name <;> rfl
theorem cmp_same (a b : gSetting) : (m_impl_compareSettings a b == 0) = (a.Name == b.Name) := by
  simp only [m_impl_compareSettings, m_cmp_Compare_string, isNaN_str, Bool.cond_false, strB_lss]
  cases h : Op.bytesLess a.Name b.Name with
  | true =>
    have : (a.Name == b.Name) = false := by
      cases he : (a.Name == b.Name) with
      | false => rfl
      | true => rw [beq_iff_eq] at he; rw [he, bless_irrefl] at h; exact absurd h (by simp)
    rw [this]; rfl
  | false =>
    have : strB .gtr a.Name b.Name = !(a.Name == b.Name) := by simp [strB, h]
    rw [this]
    cases (a.Name == b.Name) <;> rfl
/-- names that rise -/
def Up (L : List gSetting) : Prop := L.Pairwise (fun a b => Op.bytesLess a.Name b.Name = true)
theorem Up.at {L : List gSetting} (h : Up L) {i j : Int} (hi : 0 ≤ i) (hij : i < j) (hj : j < L.length) : Op.bytesLess (at' L i).Name (at' L j).Name = true := by
  have e1 : at' L i = L[i.toNat]'(by omega) := by have := at_lt (xs := L) (j := i.toNat) (by omega); rwa [Int.toNat_of_nonneg hi] at this
  have e2 : at' L j = L[j.toNat]'(by omega) := by have := at_lt (xs := L) (j := j.toNat) (by omega); rwa [Int.toNat_of_nonneg (by omega)] at this
  rw [e1, e2]
  exact List.pairwise_iff_getElem.1 h _ _ _ _ (by omega)
theorem bs_is {x : List gSetting} (hx : x.length ≤ 1000000) (hU : Up x) (t : gSetting) :
    ∃ i : Nat, i ≤ x.length ∧ (∀ j : Int, 0 ≤ j → j < i → Op.bytesLess (at' x j).Name t.Name = true) ∧ (∀ j : Int, i ≤ j → j < x.length → Op.bytesLess (at' x j).Name t.Name = false) ∧
      m_slices_BinarySearchFunc_impl_Setting x t (fun (a0 : gSetting) (a1 : gSetting) => m_impl_compareSettings a0 a1) = ((i : Int), decide ((i : Int) < x.length) && ((at' x i).Name == t.Name)) := by
  have hf : ∀ i j, 0 ≤ i → i ≤ j → j < (x.length : Int) → Op.bytesLess (at' x j).Name t.Name = true → Op.bytesLess (at' x i).Name t.Name = true := fun i j h0 h1 h2 h3 => by
    rcases Int.lt_or_eq_of_le h1 with h | h
    · exact bless_trans (hU.at h0 h h2) h3
    · subst h; exact h3
  suffices H : ∃ i : Int, 0 ≤ i ∧ i ≤ x.length ∧ (∀ j : Int, 0 ≤ j → j < i → Op.bytesLess (at' x j).Name t.Name = true) ∧ (∀ j : Int, i ≤ j → j < x.length → Op.bytesLess (at' x j).Name t.Name = false) ∧
      m_slices_BinarySearchFunc_impl_Setting x t (fun (a0 : gSetting) (a1 : gSetting) => m_impl_compareSettings a0 a1) = (i, decide (i < (x.length : Int)) && ((at' x i).Name == t.Name)) by
    obtain ⟨i, h0, h1, h2, h3, h4⟩ := H
    refine ⟨i.toNat, by omega, fun j g1 g2 => h2 j g1 (by omega), fun j g1 g2 => h3 j (by omega) g2, ?_⟩
    rw [Int.toNat_of_nonneg h0]; exact h4
  simp only [m_slices_BinarySearchFunc_impl_Setting]
  refine LOOP_post (fun (y : Int × Int) => 0 ≤ y.1 ∧ y.1 ≤ y.2 ∧ y.2 ≤ x.length ∧ (∀ q, 0 ≤ q → q < y.1 → Op.bytesLess (at' x q).Name t.Name = true) ∧ (∀ q, y.2 ≤ q → q < x.length → Op.bytesLess (at' x q).Name t.Name = false)) (fun y => (y.2 - y.1).toNat)
    (fun _ (r : Int × Bool) => ∃ i : Int, 0 ≤ i ∧ i ≤ x.length ∧ (∀ j : Int, 0 ≤ j → j < i → Op.bytesLess (at' x j).Name t.Name = true) ∧ (∀ j : Int, i ≤ j → j < x.length → Op.bytesLess (at' x j).Name t.Name = false) ∧ r = (i, decide (i < (x.length : Int)) && ((at' x i).Name == t.Name)))
    (fun rec y hI ih => ?_) _ _ ⟨by simp, by simp, by simp, fun q h1 h2 => by dsimp only at h2; omega, fun q h1 h2 => by dsimp only at h1; omega⟩ (by simp only; omega)
  obtain ⟨i, j⟩ := y
  obtain ⟨h1, h2, h3, h4, h5⟩ := hI
  simp only at h1 h2 h3 h4 h5
  simp only [m_slices_BinarySearchFunc_impl_Setting_b1]
  by_cases hij : i < j
  · have hm := srch_mid h1 hij (by omega)
    simp only [hij, decide_true, Bool.cond_true, hm, cmp_less]
    rw [wr64 (n := (i + j) / 2 + 1) (by omega)]
    cases hq : Op.bytesLess (at' x ((i + j) / 2)).Name t.Name with
    | true =>
      simp only [Bool.cond_true]
      refine ih _ ⟨by simp only; omega, by simp only; omega, by simp only; omega, fun q g1 g2 => ?_, h5⟩ (by simp only; omega)
      simp only at g2
      exact hf q ((i + j) / 2) g1 (by omega) (by omega) hq
    | false =>
      simp only [Bool.cond_false]
      refine ih _ ⟨by simp only; omega, by simp only; omega, by simp only; omega, h4, fun q g1 g2 => ?_⟩ (by simp only; omega)
      simp only at g1
      cases hq' : Op.bytesLess (at' x q).Name t.Name with
      | false => rfl
      | true => have := hf ((i + j) / 2) q (by omega) g1 g2 hq'; rw [hq] at this; exact absurd this (by simp)
  · simp only [hij, decide_false, Bool.cond_false, cmp_same]
    have e : i = j := by omega
    subst e
    exact ⟨i, h1, h3, h4, h5, rfl⟩
/-- the place behind: past the place of the same name -/
def nx (b : Bool) (i : Nat) : Nat := if b then i + 1 else i
theorem same_at {L : List gSetting} (hU : Up L) {e : gSetting} {i : Nat} {F : Bool} (h1 : ∀ j : Int, 0 ≤ j → j < i → Op.bytesLess (at' L j).Name e.Name = true) (h2 : ∀ j : Int, i ≤ j → j < L.length → Op.bytesLess (at' L j).Name e.Name = false)
    (hF : (decide ((i : Int) < L.length) && ((at' L i).Name == e.Name)) = F) : ∀ j : Int, 0 ≤ j → j < L.length → ((at' L j).Name == e.Name) = (decide (j = i) && F) := fun j g0 g1 => by
  by_cases hj : j = i
  · subst hj
    simp only [decide_true, Bool.true_and, ← hF, g1]
  · simp only [hj, decide_false, Bool.false_and]
    cases hq : ((at' L j).Name == e.Name) with
    | false => rfl
    | true =>
      rw [beq_iff_eq] at hq
      by_cases hlt : j < i
      · have := h1 j g0 hlt; rw [hq, bless_irrefl] at this; exact absurd this (by simp)
      · have a1 := hU.at (i := (i : Int)) (j := j) (by omega) (by omega) g1
        rw [hq, h2 i (by omega) (by omega)] at a1; exact absurd a1 (by simp)
theorem set27_is {L : List gSetting} (hU : Up L) (e : gSetting) (i : Nat) (hi : i ≤ L.length) (h1 : ∀ j : Int, 0 ≤ j → j < i → Op.bytesLess (at' L j).Name e.Name = true) (h2 : ∀ j : Int, i ≤ j → j < L.length → Op.bytesLess (at' L j).Name e.Name = false) :
    m_spec_l27Set L e = L.take i ++ [e] ++ L.drop (nx (decide ((i : Int) < L.length) && ((at' L i).Name == e.Name)) i) := by
  generalize hF : (decide ((i : Int) < L.length) && ((at' L i).Name == e.Name)) = F
  have hne := same_at hU h1 h2 hF
  have hFi : F = true → i < L.length := fun h => by rw [← hF] at h; simp only [Bool.and_eq_true, decide_eq_true_eq] at h; omega
  simp only [m_spec_l27Set]
  refine LOOP_is (fun (x : (List gSetting) × Bool × Int) => ∃ k : Nat, k ≤ L.length ∧ x.2.2 = k ∧ x.2.1 = decide (i < k) ∧ x.1 = if k ≤ i then L.take k else L.take i ++ [e] ++ (L.take k).drop (nx F i)) (fun x => ((L.length : Int) - x.2.2).toNat) (fun _ => L.take i ++ [e] ++ L.drop (nx F i)) (fun rec x hI ih => ?_) ⟨0, by omega, rfl, by simp, by simp⟩ (by simp only; omega)
  obtain ⟨o, b, q⟩ := x
  obtain ⟨k, hk, hq, hb, ho⟩ := hI
  simp only at hq hb ho
  subst hq; subst hb; subst ho
  simp only [m_spec_l27Set_b1, JN, strB_geq', strB_neq']
  by_cases hkl : k < L.length
  · have hkl' : ((k : Nat) : Int) < (L.length : Int) := by omega
    simp only [hkl', decide_true, Bool.cond_true]
    have hat : at' L (k : Int) = L[k] := at_lt hkl
    have htk : L.take (k + 1) = L.take k ++ [L[k]] := by rw [List.take_succ_eq_append_getElem hkl]
    rw [hne k (by omega) hkl', hat]
    by_cases hki : k < i
    · have hl := h1 k (by omega) (by omega)
      rw [hat] at hl
      have e1 : ¬ i < k := by omega
      have e2 : ¬ ((k : Nat) : Int) = (i : Int) := by omega
      have e3 : k ≤ i := by omega
      simp only [e1, e2, e3, hl, decide_false, Bool.not_false, Bool.true_and, Bool.not_true, Bool.cond_false, Bool.false_and, Bool.cond_true, if_true]
      refine ih _ ⟨k + 1, by omega, by simp, by simp; omega, ?_⟩ (by simp only; omega)
      rw [if_pos (by omega), htk]
    · by_cases hke : k = i
      · subst hke
        have hl := h2 k (by omega) (by omega)
        rw [hat] at hl
        simp only [Nat.lt_irrefl, decide_false, Bool.not_false, Bool.true_and, hl, Bool.cond_true, decide_true, Nat.le_refl, if_true]
        cases F with
        | true =>
          simp only [Bool.not_true, Bool.cond_false]
          refine ih _ ⟨k + 1, by omega, by simp, by simp, ?_⟩ (by simp only; omega)
          rw [if_neg (by omega)]
          have : (L.take (k + 1)).drop (nx true k) = [] := List.drop_eq_nil_of_le (by rw [List.length_take]; simp only [nx, if_true]; omega)
          rw [this, List.append_nil]
        | false =>
          simp only [Bool.not_false, Bool.cond_true]
          refine ih _ ⟨k + 1, by omega, by simp, by simp, ?_⟩ (by simp only; omega)
          rw [if_neg (by omega)]
          have : (L.take (k + 1)).drop (nx false k) = [L[k]] := by
            have hl' : (L.take k).length = k := by rw [List.length_take]; omega
            rw [htk]; simp only [nx, Bool.false_eq_true, if_false]
            rw [List.drop_left' hl']
          rw [this]
      · have e1 : i < k := by omega
        have e2 : ¬ ((k : Nat) : Int) = (i : Int) := by omega
        have e3 : ¬ k ≤ i := by omega
        simp only [e1, e2, e3, decide_true, decide_false, Bool.not_true, Bool.false_and, Bool.cond_false, Bool.not_false, Bool.cond_true, if_false]
        refine ih _ ⟨k + 1, by omega, by simp, by simp; omega, ?_⟩ (by simp only; omega)
        rw [if_neg (by omega), htk, List.drop_append_of_le_length (by rw [List.length_take]; unfold nx; split <;> omega)]
        simp only [List.append_assoc]
  · have hkl' : ¬ ((k : Nat) : Int) < (L.length : Int) := by omega
    have hkn : k = L.length := by omega
    subst hkn
    simp only [hkl', decide_false, Bool.cond_false, List.take_length]
    by_cases hil : i < L.length
    · have e3 : ¬ L.length ≤ i := by omega
      simp only [hil, e3, decide_true, Bool.not_true, Bool.cond_false, if_false]
    · have hin : i = L.length := by omega
      have hFf : F = false := by cases hF' : F with
        | false => rfl
        | true => exact absurd (hFi hF') (by omega)
      subst hin; subst hFf
      simp [nx]

end Go.Proofs.Ytbflomopgofkgaa
