/-
  PLAIN LAWS about the models: no program in sight. Conditions: as each theorem states them.
-/
import Derived.Test.YtpkkmkbafdadoaaExactFirstStartPlain1
set_option linter.unusedVariables false
set_option linter.unusedSimpArgs false
set_option linter.unusedSectionVars false
set_option linter.unnecessarySimpa false
namespace Go.Proofs.Ytpkkmkbafdadoaa
open Go Go.RowKit Go.Proofs Go.Proofs.Ytpkkmkbafdadoaa.E
/-! ## Names, mines, permits: both models judge alike -/
theorem and_bif (p q : Bool) : (bif p then q else false) = (p && q) := by cases p <;> rfl
theorem name_eq (s : List UInt8) : m_impl_IsName s = m_spec_l01Name s := by
  rw [Bool.eq_iff_iff]
  have h1 := LOOP_all (b := m_impl_onlyNameBytes_b1 s) (n := s.length) (fun rec k i _ => rfl) (k := fun _ => true) ((s.length : Int) - 0 : Int).toNat.succ 0 (by omega) (by omega) (by omega)
  have h2 := LOOP_all (b := m_spec_l01Name_b1 s) (n := s.length) (fun rec k i _ => rfl) (k := fun _ => true) ((s.length : Int) - 0 : Int).toNat.succ 0 (by omega) (by omega) (by omega)
  simp only [m_impl_IsName, m_spec_l01Name, m_impl_onlyNameBytes]
  change (LOOP _ _ (((s.length : Int) - 0 : Int).toNat + 1) _ = true ↔ _) at h1
  change (LOOP _ _ (((s.length : Int) - 0 : Int).toNat + 1) _ = true ↔ _) at h2
  have hl : strB .eql s [] = decide ((s.length : Int) < 1) := by
    cases s <;> simp [strB]; omega
  rw [hl]
  generalize ((s.getD (0 : Int).toNat 0).toNat : Int) = c
  simp only [m_spec_l01Small]
  simp only [Bool.cond_eq_ite, Bool.or_eq_true, Bool.not_eq_true', Bool.and_eq_false_iff, decide_eq_true_eq, decide_eq_false_iff_not]
  have e : (∀ j : Nat, (0 : Int) ≤ j → j < s.length → ((decide ((((s.getD (j : Int).toNat 0).toNat : Nat) : Int) < 97) || decide (122 < (((s.getD (j : Int).toNat 0).toNat : Nat) : Int))) && (decide ((((s.getD (j : Int).toNat 0).toNat : Nat) : Int) < 48) || decide (57 < (((s.getD (j : Int).toNat 0).toNat : Nat) : Int)))) = false) ↔ (∀ j : Nat, (0 : Int) ≤ j → j < s.length → (!m_spec_l01Small (((s.getD (j : Int).toNat 0).toNat : Nat) : Int) && !m_spec_l01Digit (((s.getD (j : Int).toNat 0).toNat : Nat) : Int)) = false) := by
    refine forall_congr' fun j => forall_congr' fun _ => forall_congr' fun _ => ?_
    generalize (((s.getD (j : Int).toNat 0).toNat : Nat) : Int) = c
    simp only [m_spec_l01Small, m_spec_l01Digit, Bool.and_eq_false_iff, Bool.or_eq_false_iff, Bool.not_eq_false', Bool.and_eq_true, decide_eq_true_eq, decide_eq_false_iff_not]
    omega
  split <;> rename_i h1' <;> split <;> rename_i h2'
  · simp
  · exfalso; omega
  · exfalso; omega
  · rw [h1, h2, e]
theorem within_eq (n l h : Int) : m_impl_within n l h = m_spec_l00In n l h := rfl
theorem bytes_tri : ∀ (a b : List UInt8), (Op.bytesLess a b || a == b) = !Op.bytesLess b a
  | [], [] => rfl
  | [], _ :: _ => rfl
  | _ :: _, [] => rfl
  | x :: a, y :: b => by
    have ih := bytes_tri a b
    simp only [Op.bytesLess]
    by_cases h1 : x < y
    · have h2 : ¬ y < x := fun h => absurd (UInt8.lt_trans h1 h) (UInt8.lt_irrefl _)
      have h3 : ¬ (y == x) = true := fun h => by rw [beq_iff_eq] at h; subst h; exact h2 h1
      simp [h1, h2, h3]
    · by_cases h2 : y < x
      · have h3 : ¬ (x == y) = true := fun h => by rw [beq_iff_eq] at h; subst h; exact h1 h2
        have h4 : ¬ x = y := fun h => h3 (by simp [h])
        simp [h1, h2, h4]
      · have h3 : x = y := UInt8.le_antisymm (UInt8.not_lt.1 h2) (UInt8.not_lt.1 h1)
        subst h3
        simp only [h1, decide_false, Bool.false_or, beq_self_eq_true, Bool.true_and]
        rw [← ih]
        simp
theorem strleq_geq (a b : List UInt8) : strB .leq a b = strB .geq b a := bytes_tri a b
theorem airway_eq (a : gAirway) : m_impl_ValidAirway a = m_spec_l03Ok a := by
  simp only [m_impl_ValidAirway, m_spec_l03Ok, name_eq, m_impl_junctionOk, within_eq]
  cases m_spec_l01Name a.Id <;> cases m_spec_l00In a.From 0 15 <;> cases m_spec_l00In a.To 0 15 <;> by_cases h : a.From = a.To <;> (try simp [h]) <;> (have hb : (a.From == a.To) = false := by simpa using h) <;> simp [bne, hb, Bool.and_assoc]
theorem mine_eq (m : gMine) : m_impl_ValidMine m = m_spec_l04Ok m := by
  rw [Bool.eq_iff_iff]
  have h1 := LOOP_all (b := m_impl_ValidMine_b1 m) (n := m.Airways.length) (fun rec k i _ => rfl) (k := fun _ => true) (((m.Airways.length : Int) - 0 : Int).toNat + 1) 0 (by omega) (by omega) (by omega)
  have h2 := LOOP_all (b := m_spec_l04Ok_b1 m) (n := m.Airways.length) (fun rec k i _ => rfl) (k := fun _ => decide ((m.Airways.length : Int) ≤ 24)) (((m.Airways.length : Int) - 0 : Int).toNat + 1) 0 (by omega) (by omega) (by omega)
  simp only [m_impl_ValidMine, m_spec_l04Ok, within_eq]
  cases hj : m_spec_l00In m.Junctions 1 16 with
  | false => simp
  | true =>
    simp only [Bool.not_true, Bool.false_or, Bool.cond_false]
    by_cases hl : (24 : Int) < (m.Airways.length : Int)
    · simp only [hl, decide_true, Bool.cond_true]
      rw [h2]
      simp only [Bool.false_eq_true, false_iff]
      rintro ⟨_, h⟩
      simp at h; omega
    · simp only [hl, decide_false, Bool.cond_false]
      rw [h1, h2]
      simp only [airway_eq, strleq_geq, m_impl_Mine_hasEnds, m_impl_Mine_hasJunction, within_eq, m_spec_l04Junction]
      have e : ∀ p q r s : Bool, ((!p || !(q && r)) || s) = (((!p || !q) || !r) || s) := by decide
      simp only [e]
      simp; omega
theorem permit_eq (x : gPermit) : m_impl_Permit_valid x = m_spec_l26One x := by
  simp only [m_impl_Permit_valid, m_spec_l26One, name_eq, m_impl_kindOk, m_spec_l26Kind, m_spec_l14Airway, within_eq]
  generalize (m_spec_l01Name x.Id && m_spec_l00In x.Kind 1 4 && m_spec_l00In x.Airway 0 23) = p
  cases p with
  | false => simp
  | true =>
    simp only [Bool.true_and, m_spec_l00In]
    rw [Bool.eq_iff_iff]
    simp only [Bool.and_eq_true, decide_eq_true_eq]
    by_cases h1 : 0 ≤ x.Until ∧ x.Until ≤ 100000
    · by_cases h2 : 0 ≤ x.From ∧ x.From ≤ 99999
      · rw [wr64 (by omega), wr64 (by omega)]; omega
      · rw [wr64 (by omega)]; constructor
        · intro h; omega
        · intro h; omega
    · constructor
      · intro h; omega
      · intro h
        rw [wr64 (by omega)] at h; omega
/-- what a permit's numbers are -/
theorem one_imp {x : gPermit} (h : m_spec_l26One x = true) : 0 ≤ x.Airway ∧ 0 ≤ x.From ∧ x.From < x.Until ∧ x.Until ≤ 100000 ∧ m_spec_l00In x.Kind 1 4 = true := by
  simp only [m_spec_l26One, m_spec_l14Airway, m_spec_l26Kind, Bool.and_eq_true] at h
  obtain ⟨⟨⟨⟨_, hk⟩, ha⟩, hf⟩, hu⟩ := h
  simp only [m_spec_l00In, Bool.and_eq_true, decide_eq_true_eq] at ha hf hu
  rw [wr64 (by omega)] at hu
  exact ⟨ha.1, hf.1, by omega, hu.2, hk⟩
theorem index_eq (l : List gAirway) (k : Int) : m_impl_indexValid_impl_Airway l k = (decide (0 ≤ k) && decide (k < l.length)) := by
  simp only [m_impl_indexValid_impl_Airway, m_impl_within]
  rw [Bool.eq_iff_iff]; simp; omega
theorem permits_eq (m : gMine) (list : List gPermit) : m_impl_ValidPermits m list = m_spec_l26Ok m list := by
  rw [Bool.eq_iff_iff]
  have h1 := LOOP_all (b := m_impl_ValidPermits_b1 m list) (n := list.length) (fun rec k i _ => rfl) (k := fun _ => true) (((list.length : Int) - 0 : Int).toNat + 1) 0 (by omega) (by omega) (by omega)
  have h2 := LOOP_all (b := m_spec_l26Ok_b1 m list) (n := list.length) (fun rec k i _ => rfl) (k := fun _ => true) (((list.length : Int) - 0 : Int).toNat + 1) 0 (by omega) (by omega) (by omega)
  have e : ∀ x : gPermit, ∀ q : Bool, (!m_impl_Permit_valid x || !m_impl_indexValid_impl_Airway m.Airways x.Airway || q) = (!m_spec_l26One x || decide ((m.Airways.length : Int) ≤ x.Airway) || q) := fun x q => by
    rw [permit_eq, index_eq]
    cases ho : m_spec_l26One x with
    | false => rfl
    | true =>
      have := (one_imp ho).1
      have hd : decide (0 ≤ x.Airway) = true := by simpa using this
      rw [hd]
      by_cases hl : x.Airway < (m.Airways.length : Int)
      · have : ¬ (m.Airways.length : Int) ≤ x.Airway := by omega
        simp [hl, this]
      · have : (m.Airways.length : Int) ≤ x.Airway := by omega
        simp [hl, this]
  simp only [m_impl_ValidPermits, m_spec_l26Ok, mine_eq]
  cases hc : (!m_spec_l04Ok m || decide (16 < (list.length : Int))) with
  | true => simp
  | false =>
    simp only [Bool.cond_false]
    rw [h1, h2]
    simp only [e, strleq_geq]
/-- what the permits of a list are -/
def PmIn (n : Nat) (list : List gPermit) : Prop := ∀ y ∈ list, 0 ≤ y.Airway ∧ y.Airway < n ∧ 0 ≤ y.From ∧ y.From < y.Until ∧ y.Until ≤ 100000 ∧ m_spec_l00In y.Kind 1 4 = true
theorem l26Ok_imp {m : gMine} {list : List gPermit} (h : m_spec_l26Ok m list = true) : PmIn m.Airways.length list := by
  have h2 := LOOP_all (b := m_spec_l26Ok_b1 m list) (n := list.length) (fun rec k i _ => rfl) (k := fun _ => true) (((list.length : Int) - 0 : Int).toNat + 1) 0 (by omega) (by omega) (by omega)
  simp only [m_spec_l26Ok] at h
  cases hc : (!m_spec_l04Ok m || decide (16 < (list.length : Int))) with
  | true => rw [hc] at h; simp at h
  | false =>
    rw [hc] at h
    simp only [Bool.cond_false] at h
    rw [h2] at h
    unfold PmIn
    rw [all_at]
    intro j hj
    have := h.1 j (by omega) hj
    simp only [Bool.or_eq_false_iff, Bool.not_eq_false', decide_eq_false_iff_not] at this
    have h1 := one_imp this.1.1
    refine ⟨h1.1, by have := this.1.2; omega, h1.2.1, h1.2.2.1, h1.2.2.2⟩
theorem ValidPermits_imp {m : gMine} {list : List gPermit} (h : m_impl_ValidPermits m list = true) : PmIn m.Airways.length list := l26Ok_imp (by rw [← permits_eq]; exact h)
theorem valid_imp {x : gPermit} (h : m_impl_Permit_valid x = true) : 0 ≤ x.Airway ∧ 0 ≤ x.From ∧ x.From < x.Until ∧ x.Until ≤ 100000 ∧ m_spec_l00In x.Kind 1 4 = true := one_imp (by rw [← permit_eq]; exact h)
theorem indexValid_imp {l : List gAirway} {k : Int} (h : m_impl_indexValid_impl_Airway l k = true) : 0 ≤ k ∧ k < l.length := by
  rw [index_eq] at h; simpa using h
theorem PmIn.at {n : Nat} {list : List gPermit} {i : Int} (h : PmIn n list) (hi : 0 ≤ i ∧ i < list.length) : 0 ≤ (at' list i).Airway ∧ (at' list i).Airway < n ∧ 0 ≤ (at' list i).From ∧ (at' list i).From < (at' list i).Until ∧ (at' list i).Until ≤ 100000 := by
  have := at_all h hi
  exact ⟨this.1, this.2.1, this.2.2.1, this.2.2.2.1, this.2.2.2.2.1⟩
theorem PmIn.air {n : Nat} {list : List gPermit} (h : PmIn n list) : ∀ y ∈ list, 0 ≤ y.Airway ∧ y.Airway < n := fun y hy => ⟨(h y hy).1, (h y hy).2.1⟩
theorem l26Clash_imp {m : gMine} {x y : gPermit} (h : m_spec_l26Clash m x y = true) : x.From < y.Until ∧ y.From < x.Until := by
  simp only [m_spec_l26Clash] at h
  cases hc : (decide (y.Until ≤ x.From) || decide (x.Until ≤ y.From)) with
  | true => rw [hc] at h; simp at h
  | false =>
    simp only [Bool.or_eq_false_iff, decide_eq_false_iff_not] at hc
    omega
theorem clash_imp {m : gMine} {x y : gPermit} (h : m_impl_Mine_clash m x y = true) : x.From < y.Until ∧ y.From < x.Until := by
  simp only [m_impl_Mine_clash] at h
  cases hc : (decide (y.Until ≤ x.From) || decide (x.Until ≤ y.From)) with
  | true => rw [hc] at h; simp at h
  | false =>
    simp only [Bool.or_eq_false_iff, decide_eq_false_iff_not] at hc
    omega
theorem find_iff {s : List gPermit} {f : gPermit → Bool} : m_slices_ContainsFunc_impl_Permit s f = true ↔ ∃ y ∈ s, f y = true := by
  have hd : m_slices_ContainsFunc_impl_Permit s f = true ↔ 0 ≤ LOOP (m_slices_IndexFunc_impl_Permit_b1 s f) (fun _ => (-1)) (((s.length : Int) - 0 : Int).toNat + 1) 0 := decide_eq_true_iff
  rw [hd]
  have key : ∀ (fuel : Nat) (i : Int), 0 ≤ i → i ≤ s.length → ((s.length : Int) - i).toNat < fuel → (0 ≤ LOOP (m_slices_IndexFunc_impl_Permit_b1 s f) (fun _ => (-1)) fuel i ↔ ∃ j : Nat, i ≤ j ∧ j < s.length ∧ f (at' s j) = true) := by
    intro fuel
    induction fuel with
    | zero => intro i _ _ h; omega
    | succ m ih =>
      intro i h0 hn hm
      simp only [LOOP, m_slices_IndexFunc_impl_Permit_b1]
      by_cases hi : i < (s.length : Int)
      · simp only [hi, decide_true, Bool.cond_true]
        cases hf : f (at' s i) with
        | true =>
          simp only [Bool.cond_true]
          exact ⟨fun _ => ⟨i.toNat, by omega, by omega, by rw [show ((i.toNat : Nat) : Int) = i by omega]; exact hf⟩, fun _ => h0⟩
        | false =>
          simp only [Bool.cond_false]
          rw [ih (i + 1) (by omega) (by omega) (by omega)]
          constructor
          · rintro ⟨j, h1, h2, h3⟩; exact ⟨j, by omega, h2, h3⟩
          · rintro ⟨j, h1, h2, h3⟩
            refine ⟨j, ?_, h2, h3⟩
            by_cases e : (j : Int) = i
            · rw [e, hf] at h3; simp at h3
            · omega
      · simp only [hi, decide_false, Bool.cond_false]
        constructor
        · intro h; omega
        · rintro ⟨j, h1, h2, _⟩; omega
  rw [key _ 0 (by omega) (by omega) (by omega)]
  constructor
  · rintro ⟨j, _, h2, h3⟩; exact ⟨_, at_mem ⟨by omega, by omega⟩, h3⟩
  · rintro ⟨y, hy, h⟩
    obtain ⟨j, hj, e⟩ := List.mem_iff_getElem.1 hy
    exact ⟨j, by omega, hj, by rw [at_lt hj, e]; exact h⟩
theorem with_iff {m : gMine} {x : gPermit} {list : List gPermit} : m_impl_Mine_clashesWith m x list = true ↔ ∃ y ∈ list, m_impl_Mine_clash m x y = true := by
  simp only [m_impl_Mine_clashesWith, find_iff, m_impl_Mine_clashesWith_1]
theorem clashesWith_lt {n : Nat} {m : gMine} {x : gPermit} {list : List gPermit} (hp : PmIn n list) (h : m_impl_Mine_clashesWith m x list = true) : x.From < 100000 := by
  obtain ⟨y, hy, hc⟩ := with_iff.1 h
  have h1 := clash_imp hc
  have h2 := hp y hy
  omega


end Go.Proofs.Ytpkkmkbafdadoaa
