/-
  PLAIN LAWS about the models: no program in sight. Conditions: as each theorem states them.
-/
import Derived.Test.YtbflomopgofkgaaExactAddPermitPlain7
set_option linter.unusedVariables false
set_option linter.unusedSimpArgs false
set_option linter.unusedSectionVars false
set_option linter.unnecessarySimpa false
namespace Go.Proofs.Ytbflomopgofkgaa
open Go Go.RowKit Go.Proofs Go.Proofs.Ytbflomopgofkgaa.E
/-! ## AddPermit -/
theorem cutP_le {xs : List gPermit} {a b : Int} : (cut' xs a b).length ≤ xs.length := by
  simp only [cut', List.length_take, List.length_drop]; omega
theorem srch_mid {i j : Int} (h0 : 0 ≤ i) (h1 : i < j) (h2 : j ≤ 1000000) : IntKind.wrap .i64 (Int.fdiv (IntKind.wrap .u64 (IntKind.wrap .i64 (i + j))) (2 ^ min (1 : Int).toNat 64)) = (i + j) / 2 := by
  have e1 : IntKind.wrap .i64 (i + j) = i + j := wr64 (by omega)
  have e2 : IntKind.wrap .u64 (i + j) = i + j := by
    have : IntKind.wrap .u64 (i + j) = (i + j) % 18446744073709551616 := by simp [IntKind.wrap, IntKind.signed, IntKind.bits]
    omega
  have e3 : ((2 : Int) ^ min (1 : Int).toNat 64) = 2 := by decide
  rw [e1, e2, e3, Int.fdiv_eq_ediv_of_nonneg _ (by omega)]
  exact wr64 (by omega)
theorem bless_trans : ∀ {a b c : List UInt8}, Op.bytesLess a b = true → Op.bytesLess b c = true → Op.bytesLess a c = true
  | [], [], _, h, _ => by simp [Op.bytesLess] at h
  | [], _ :: _, [], _, h => by simp [Op.bytesLess] at h
  | [], _ :: _, _ :: _, _, _ => rfl
  | _ :: _, [], _, h, _ => by simp [Op.bytesLess] at h
  | _ :: _, _ :: _, [], _, h => by simp [Op.bytesLess] at h
  | x :: a, y :: b, z :: c, h1, h2 => by
    have ih := bless_trans (a := a) (b := b) (c := c)
    simp only [Op.bytesLess] at h1 h2 ⊢
    by_cases e1 : x < y
    · by_cases e2 : y < z
      · have := UInt8.lt_trans e1 e2; simp [this]
      · have e3 : y = z := by
          simp only [e2, decide_false, Bool.false_or, Bool.and_eq_true, beq_iff_eq] at h2
          exact h2.1
        subst e3; simp [e1]
    · have e3 : x = y := by
        simp only [e1, decide_false, Bool.false_or, Bool.and_eq_true, beq_iff_eq] at h1
        exact h1.1
      subst e3
      by_cases e2 : x < z
      · simp [e2]
      · simp only [e1, e2, decide_false, Bool.false_or, Bool.and_eq_true, beq_iff_eq] at h1 h2 ⊢
        exact ⟨h2.1, ih h1.2 h2.2⟩
theorem bless_irrefl : ∀ (a : List UInt8), Op.bytesLess a a = false
  | [] => rfl
  | x :: a => by
    simp only [Op.bytesLess, bless_irrefl a]
    simp
theorem ids_up {m : gMine} {list : List gPermit} (hv : m_spec_l26Ok m list = true) : ∀ (d j : Nat), j + d + 1 < list.length → Op.bytesLess (at' list (j : Int)).Id (at' list ((j + d + 1 : Nat) : Int)).Id = true
  | 0, j, h => by
    have := ((l26_all.1 hv).2 (j + 1) h).2.2 (by omega)
    rw [show (((j + 1 : Nat)) : Int) - 1 = (j : Int) by omega] at this
    simpa [strB] using this
  | d + 1, j, h => by
    have h1 := ids_up hv d j (by omega)
    have := ((l26_all.1 hv).2 (j + (d + 1) + 1) h).2.2 (by omega)
    rw [show (((j + (d + 1) + 1 : Nat)) : Int) - 1 = ((j + d + 1 : Nat) : Int) by omega] at this
    exact bless_trans h1 (by simpa [strB] using this)
theorem with_iff {m : gMine} {x : gPermit} {list : List gPermit} : m_impl_Mine_clashesWith m x list = true ↔ ∃ y ∈ list, m_impl_Mine_clash m x y = true := by
  simp only [m_impl_Mine_clashesWith, cf_impl_Permit, m_impl_Mine_clashesWith_1]
def PosI (list : List gPermit) (id : List UInt8) (p : Int) : Prop := (0 ≤ p ∧ p ≤ list.length) ∧ (∀ q, 0 ≤ q → q < p → strB .lss (at' list q).Id id = true) ∧ (p < list.length → strB .lss (at' list p).Id id = false)
theorem PosI.uniq {list : List gPermit} {id : List UInt8} {p q : Int} (h1 : PosI list id p) (h2 : PosI list id q) : p = q := by
  obtain ⟨⟨a0, a1⟩, a2, a3⟩ := h1
  obtain ⟨⟨b0, b1⟩, b2, b3⟩ := h2
  rcases Int.lt_trichotomy p q with h | h | h
  · have := a3 (by omega); rw [b2 p a0 h] at this; simp at this
  · exact h
  · have := b3 (by omega); rw [a2 q b0 h] at this; simp at this
def addR (m : gMine) (list : List gPermit) (z : gPermit) (p : Int) : List gPermit × Int :=
  bif (decide (p < (list.length : Int))) && (strB .eql (at' list p).Id z.Id) then (([] : List gPermit), 4) else bif (list.length : Int) == 16 then (([] : List gPermit), 5) else bif !(m_spec_l26Free m list z) then (([] : List gPermit), 6) else (((([] : List gPermit) ++ (cut' list 0 p)) ++ ([z] : List gPermit)) ++ (cut' list p (list.length : Int)), 0)
theorem add_is {m : gMine} {list : List gPermit} {z : gPermit} (hv : m_spec_l26Ok m list = true) (ho : m_spec_l26One z = true) (ha : ¬ (m.Airways.length : Int) ≤ z.Airway) : ∃ p, PosI list z.Id p ∧ m_spec_AddPermit m list z = addR m list z p := by
  simp only [m_spec_AddPermit, hv, ho, ha, decide_false, Bool.not_true, Bool.or_self, Bool.cond_false]
  refine LOOP_post (fun (p : Int) => (0 ≤ p ∧ p ≤ list.length) ∧ ∀ q, 0 ≤ q → q < p → strB .lss (at' list q).Id z.Id = true) (fun p => ((list.length : Int) - p).toNat) (fun _ (r : List gPermit × Int) => ∃ p, PosI list z.Id p ∧ r = addR m list z p) (fun rec p hI ih => ?_) _ _ ⟨⟨by omega, by omega⟩, fun q h1 h2 => by omega⟩ (by omega)
  obtain ⟨⟨h0, h1⟩, h2⟩ := hI
  simp only [m_spec_AddPermit_b1]
  by_cases hp : p < (list.length : Int)
  · cases hs : strB .lss (at' list p).Id z.Id with
    | true =>
      simp only [hp, decide_true, Bool.and_self, Bool.cond_true]
      refine ih _ ⟨⟨by omega, by omega⟩, fun q q0 q1 => ?_⟩ (by omega)
      by_cases e : q = p
      · subst e; exact hs
      · exact h2 q q0 (by omega)
    | false =>
      simp only [Bool.and_false, Bool.cond_false]
      exact ⟨p, ⟨⟨h0, h1⟩, h2, fun _ => hs⟩, rfl⟩
  · simp only [hp, decide_false, Bool.false_and, Bool.cond_false]
    refine ⟨p, ⟨⟨h0, h1⟩, h2, fun h => absurd h hp⟩, ?_⟩
    simp only [addR, hp, decide_false, Bool.false_and, Bool.cond_false]
theorem free_is {m : gMine} {list : List gPermit} {z : gPermit} (hv : m_spec_l26Ok m list = true) (ho : m_spec_l26One z = true) : m_spec_l26Free m list z = !m_impl_Mine_clashesWith m z list := by
  have hp := l26Ok_imp hv
  have hk := (one_imp ho).2.2.2.2
  have h1 := LOOP_all (b := m_spec_l26Free_b1 m list z) (n := list.length) (fun rec k i _ => rfl) (k := fun _ => true) (((list.length : Int) - 0 : Int).toNat + 1) 0 (by omega) (by omega) (by omega)
  rw [Bool.eq_iff_iff]
  simp only [m_spec_l26Free]
  rw [h1]
  simp only [and_true, Bool.not_eq_true']
  constructor
  · intro h
    cases hc : m_impl_Mine_clashesWith m z list with
    | false => rfl
    | true =>
      obtain ⟨y, hy, hcl⟩ := with_iff.1 hc
      obtain ⟨j, hj, e⟩ := List.mem_iff_getElem.1 hy
      have := h j (by omega) hj
      rw [at_lt hj, e] at this
      rw [clash_eq hk (hp y hy).2.2.2.2.2, this] at hcl
      simp at hcl
  · intro h j _ hj
    have hm := at_mem (xs := list) (i := (j : Int)) ⟨by omega, by omega⟩
    cases hc : m_spec_l26Clash m (at' list j) z with
    | false => rfl
    | true =>
      have : m_impl_Mine_clashesWith m z list = true := with_iff.2 ⟨_, hm, by rw [clash_eq hk (hp _ hm).2.2.2.2.2]; exact hc⟩
      rw [this] at h; simp at h
theorem insertP_is {s : List gPermit} {i : Int} {e : gPermit} (h : 0 ≤ i ∧ i ≤ s.length) : (m_slices_Insert_impl_Permit s i ([e] : List gPermit)).1 = ins s i [e] := by
  simp only [m_slices_Insert_impl_Permit]
  by_cases hi : i = (s.length : Int)
  · subst hi
    simp [ins]
  · have hf : (i == (s.length : Int)) = false := by simpa using hi
    rw [hf]
    simp
/-- where the search ends, whatever the order -/
theorem bs_rng {x : List gPermit} (hx : x.length ≤ 1000000) {t : gPermit} {cmp : gPermit → gPermit → Int} :
    0 ≤ (m_slices_BinarySearchFunc_impl_Permit x t cmp).1 ∧ (m_slices_BinarySearchFunc_impl_Permit x t cmp).1 ≤ x.length ∧ ((m_slices_BinarySearchFunc_impl_Permit x t cmp).2 = true → (m_slices_BinarySearchFunc_impl_Permit x t cmp).1 < x.length) := by
  simp only [m_slices_BinarySearchFunc_impl_Permit]
  refine LOOP_post (fun (y : Int × Int) => 0 ≤ y.1 ∧ y.1 ≤ y.2 ∧ y.2 ≤ x.length) (fun y => (y.2 - y.1).toNat) (fun _ (r : Int × Bool) => 0 ≤ r.1 ∧ r.1 ≤ x.length ∧ (r.2 = true → r.1 < x.length)) (fun rec y hI ih => ?_) _ _ ⟨by simp, by simp, by simp⟩ (by simp only; omega)
  obtain ⟨i, j⟩ := y
  obtain ⟨h1, h2, h3⟩ := hI
  simp only at h1 h2 h3
  simp only [m_slices_BinarySearchFunc_impl_Permit_b1]
  by_cases hij : i < j
  · have hm := srch_mid h1 hij (by omega)
    simp only [hij, decide_true, Bool.cond_true, hm]
    rw [wr64 (n := (i + j) / 2 + 1) (by omega)]
    cases (decide (cmp (at' x ((i + j) / 2)) t < 0)) with
    | true => exact ih _ ⟨by simp only; omega, by simp only; omega, by simp only; omega⟩ (by simp only; omega)
    | false => exact ih _ ⟨by simp only; omega, by simp only; omega, by simp only; omega⟩ (by simp only; omega)
  · simp only [hij, decide_false, Bool.cond_false]
    refine ⟨h1, by omega, fun h => ?_⟩
    simp only [Bool.and_eq_true, decide_eq_true_eq] at h
    exact h.1
theorem cmpB_less : ∀ (a b : List UInt8), decide (Lib.compareBytes a b < 0) = Op.bytesLess a b
  | [], [] => rfl
  | [], _ :: _ => rfl
  | _ :: _, [] => rfl
  | x :: a, y :: b => by
    have ih := cmpB_less a b
    simp only [Lib.compareBytes, Op.bytesLess]
    by_cases h1 : x < y
    · simp [h1]
    · by_cases h2 : y < x
      · have h3 : ¬ x = y := fun e => by subst e; exact h1 h2
        simp [h1, h2, h3]
      · have h3 : x = y := UInt8.le_antisymm (UInt8.not_lt.1 h2) (UInt8.not_lt.1 h1)
        subst h3
        simp only [h1, if_false, decide_false, Bool.false_or, beq_self_eq_true, Bool.true_and]
        exact ih
theorem cmpB_same : ∀ (a b : List UInt8), (Lib.compareBytes a b == 0) = (a == b)
  | [], [] => rfl
  | [], _ :: _ => rfl
  | _ :: _, [] => rfl
  | x :: a, y :: b => by
    have ih := cmpB_same a b
    simp only [Lib.compareBytes]
    by_cases h1 : x < y
    · have h3 : ¬ x = y := fun e => by subst e; exact UInt8.lt_irrefl _ h1
      simp [h1, h3]
    · by_cases h2 : y < x
      · have h3 : ¬ x = y := fun e => by subst e; exact h1 h2
        simp [h1, h2, h3]
      · have h3 : x = y := UInt8.le_antisymm (UInt8.not_lt.1 h2) (UInt8.not_lt.1 h1)
        subst h3
        simp only [h1, if_false, ih]
        rw [Bool.eq_iff_iff]; simp
theorem cmp_less (a b : gPermit) : decide (m_impl_AddPermit_1 a b < 0) = Op.bytesLess a.Id b.Id := cmpB_less a.Id b.Id
theorem cmp_same (a b : gPermit) : (m_impl_AddPermit_1 a b == 0) = (a.Id == b.Id) := cmpB_same a.Id b.Id
/-- names that rise -/
def Up (L : List gPermit) : Prop := L.Pairwise (fun a b => Op.bytesLess a.Id b.Id = true)
theorem Up.at {L : List gPermit} (h : Up L) {i j : Int} (hi : 0 ≤ i) (hij : i < j) (hj : j < L.length) : Op.bytesLess (at' L i).Id (at' L j).Id = true := by
  have e1 : at' L i = L[i.toNat]'(by omega) := by have := at_lt (xs := L) (j := i.toNat) (by omega); rwa [Int.toNat_of_nonneg hi] at this
  have e2 : at' L j = L[j.toNat]'(by omega) := by have := at_lt (xs := L) (j := j.toNat) (by omega); rwa [Int.toNat_of_nonneg (by omega)] at this
  rw [e1, e2]
  exact List.pairwise_iff_getElem.1 h _ _ _ _ (by omega)
theorem bs_is {x : List gPermit} (hx : x.length ≤ 1000000) (hU : Up x) (t : gPermit) :
    ∃ i : Nat, i ≤ x.length ∧ (∀ j : Int, 0 ≤ j → j < i → Op.bytesLess (at' x j).Id t.Id = true) ∧ (∀ j : Int, i ≤ j → j < x.length → Op.bytesLess (at' x j).Id t.Id = false) ∧
      m_slices_BinarySearchFunc_impl_Permit x t (fun (a0 : gPermit) (a1 : gPermit) => m_impl_AddPermit_1 a0 a1) = ((i : Int), decide ((i : Int) < x.length) && ((at' x i).Id == t.Id)) := by
  have hf : ∀ i j, 0 ≤ i → i ≤ j → j < (x.length : Int) → Op.bytesLess (at' x j).Id t.Id = true → Op.bytesLess (at' x i).Id t.Id = true := fun i j h0 h1 h2 h3 => by
    rcases Int.lt_or_eq_of_le h1 with h | h
    · exact bless_trans (hU.at h0 h h2) h3
    · subst h; exact h3
  suffices H : ∃ i : Int, 0 ≤ i ∧ i ≤ x.length ∧ (∀ j : Int, 0 ≤ j → j < i → Op.bytesLess (at' x j).Id t.Id = true) ∧ (∀ j : Int, i ≤ j → j < x.length → Op.bytesLess (at' x j).Id t.Id = false) ∧
      m_slices_BinarySearchFunc_impl_Permit x t (fun (a0 : gPermit) (a1 : gPermit) => m_impl_AddPermit_1 a0 a1) = (i, decide (i < (x.length : Int)) && ((at' x i).Id == t.Id)) by
    obtain ⟨i, h0, h1, h2, h3, h4⟩ := H
    refine ⟨i.toNat, by omega, fun j g1 g2 => h2 j g1 (by omega), fun j g1 g2 => h3 j (by omega) g2, ?_⟩
    rw [Int.toNat_of_nonneg h0]; exact h4
  simp only [m_slices_BinarySearchFunc_impl_Permit]
  refine LOOP_post (fun (y : Int × Int) => 0 ≤ y.1 ∧ y.1 ≤ y.2 ∧ y.2 ≤ x.length ∧ (∀ q, 0 ≤ q → q < y.1 → Op.bytesLess (at' x q).Id t.Id = true) ∧ (∀ q, y.2 ≤ q → q < x.length → Op.bytesLess (at' x q).Id t.Id = false)) (fun y => (y.2 - y.1).toNat)
    (fun _ (r : Int × Bool) => ∃ i : Int, 0 ≤ i ∧ i ≤ x.length ∧ (∀ j : Int, 0 ≤ j → j < i → Op.bytesLess (at' x j).Id t.Id = true) ∧ (∀ j : Int, i ≤ j → j < x.length → Op.bytesLess (at' x j).Id t.Id = false) ∧ r = (i, decide (i < (x.length : Int)) && ((at' x i).Id == t.Id)))
    (fun rec y hI ih => ?_) _ _ ⟨by simp, by simp, by simp, fun q h1 h2 => by dsimp only at h2; omega, fun q h1 h2 => by dsimp only at h1; omega⟩ (by simp only; omega)
  obtain ⟨i, j⟩ := y
  obtain ⟨h1, h2, h3, h4, h5⟩ := hI
  simp only at h1 h2 h3 h4 h5
  simp only [m_slices_BinarySearchFunc_impl_Permit_b1]
  by_cases hij : i < j
  · have hm := srch_mid h1 hij (by omega)
    simp only [hij, decide_true, Bool.cond_true, hm, cmp_less]
    rw [wr64 (n := (i + j) / 2 + 1) (by omega)]
    cases hq : Op.bytesLess (at' x ((i + j) / 2)).Id t.Id with
    | true =>
      simp only [Bool.cond_true]
      refine ih _ ⟨by simp only; omega, by simp only; omega, by simp only; omega, fun q g1 g2 => ?_, h5⟩ (by simp only; omega)
      simp only at g2
      exact hf q ((i + j) / 2) g1 (by omega) (by omega) hq
    | false =>
      simp only [Bool.cond_false]
      refine ih _ ⟨by simp only; omega, by simp only; omega, by simp only; omega, h4, fun q g1 g2 => ?_⟩ (by simp only; omega)
      simp only at g1
      cases hq' : Op.bytesLess (at' x q).Id t.Id with
      | false => rfl
      | true => have := hf ((i + j) / 2) q (by omega) g1 g2 hq'; rw [hq] at this; exact absurd this (by simp)
  · simp only [hij, decide_false, Bool.cond_false, cmp_same]
    have e : i = j := by omega
    subst e
    exact ⟨i, h1, h3, h4, h5, rfl⟩
theorem ok_up {m : gMine} {list : List gPermit} (hv : m_spec_l26Ok m list = true) : Up list := by
  refine List.pairwise_iff_getElem.2 fun i j hi hj hij => ?_
  have := ids_up hv (j - i - 1) i (by omega)
  rw [show i + (j - i - 1) + 1 = j by omega, at_lt hi, at_lt hj] at this
  exact this
theorem AddPermit_eq (m : gMine) (list : List gPermit) (x : gPermit) : m_impl_AddPermit m list x = m_spec_AddPermit m list x := by
  cases hv : m_spec_l26Ok m list with
  | false => simp only [m_impl_AddPermit, m_spec_AddPermit, permits_eq, hv]; rfl
  | true =>
    simp only [m_impl_AddPermit, permits_eq, permit_eq, hv, Bool.not_true, Bool.cond_false]
    cases ho : m_spec_l26One x with
    | false => simp only [m_spec_AddPermit, hv, ho]; rfl
    | true =>
      have hx := one_imp ho
      have hidx : (!(m_impl_indexValid_impl_Airway m.Airways x.Airway)) = decide ((m.Airways.length : Int) ≤ x.Airway) := by
        rw [Bool.eq_iff_iff]
        simp only [m_impl_indexValid_impl_Airway, m_impl_within, Bool.not_eq_true', Bool.and_eq_false_iff, decide_eq_false_iff_not, decide_eq_true_eq]
        omega
      rw [hidx]
      by_cases ha : (m.Airways.length : Int) ≤ x.Airway
      · simp [m_spec_AddPermit, hv, ho, ha]
      · obtain ⟨p, hp, he⟩ := add_is hv ho ha
        have hl := l26Ok_len hv
        obtain ⟨i, hi, h1, h2, hbs⟩ := bs_is (x := list) (by omega) (ok_up hv) x
        have hpi : p = (i : Int) := hp.uniq ⟨⟨by omega, by omega⟩, h1, fun h => h2 i (by omega) h⟩
        subst hpi
        rw [he, hbs]
        simp only [ha, decide_false, Bool.not_true, Bool.or_self, Bool.cond_false, addR, free_is hv ho, Bool.not_not]
        have hc : m_slices_Clone_impl_Permit list = list := by simp [m_slices_Clone_impl_Permit]
        rw [hc, insertP_is ⟨by omega, by omega⟩, cut_drop]
        have hcut : cut' list 0 (i : Int) = list.take i := by simp [cut']
        rw [hcut, List.nil_append]
        rfl
theorem AddPermit_len (m : gMine) (list : List gPermit) (x : gPermit) : (m_spec_AddPermit m list x).1.length ≤ 1048576 := by
  cases hv : m_spec_l26Ok m list with
  | false => simp [m_spec_AddPermit, hv]
  | true =>
    cases ho : m_spec_l26One x with
    | false => simp [m_spec_AddPermit, hv, ho]
    | true =>
      by_cases ha : (m.Airways.length : Int) ≤ x.Airway
      · simp [m_spec_AddPermit, hv, ho, ha]
      · obtain ⟨p, hp, he⟩ := add_is hv ho ha
        have hl := l26Ok_len hv
        rw [he]
        simp only [addR]
        cases (decide (p < (list.length : Int)) && strB .eql (at' list p).Id x.Id) with
        | true => simp
        | false =>
          cases ((list.length : Int) == 16) with
          | true => simp
          | false =>
            cases (!(m_spec_l26Free m list x)) with
            | true => simp
            | false =>
              simp only [Bool.cond_false, cut', List.length_append, List.length_take, List.length_drop, List.length_cons, List.length_nil]
              omega

end Go.Proofs.Ytbflomopgofkgaa
