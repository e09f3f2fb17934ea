/-
  PLAIN LAWS about the models: no program in sight. Conditions: as each theorem states them.
-/
import Derived.Test.YtibbfdojcdkopaaExactAssignCrewsPlain1
set_option linter.unusedVariables false
set_option linter.unusedSimpArgs false
set_option linter.unusedSectionVars false
set_option linter.unnecessarySimpa false
namespace Go.Proofs.Ytibbfdojcdkopaa
open Go Go.RowKit Go.Proofs Go.Proofs.Ytibbfdojcdkopaa.E
/-! ## Names, mines: both models judge alike -/
theorem name_eq (s : List UInt8) : m_impl_IsName s = m_spec_l01Name s := by
  rw [Bool.eq_iff_iff]
  have h1 := LOOP_all (b := m_impl_onlyNameBytes_b1 s) (n := s.length) (fun rec k i _ => rfl) (k := fun _ => true) ((s.length : Int) - 0 : Int).toNat.succ 0 (by omega) (by omega) (by omega)
  have h2 := LOOP_all (b := m_spec_l01Name_b1 s) (n := s.length) (fun rec k i _ => rfl) (k := fun _ => true) ((s.length : Int) - 0 : Int).toNat.succ 0 (by omega) (by omega) (by omega)
  simp only [m_impl_IsName, m_spec_l01Name, m_impl_onlyNameBytes]
  change (LOOP _ _ (((s.length : Int) - 0 : Int).toNat + 1) _ = true ↔ _) at h1
  change (LOOP _ _ (((s.length : Int) - 0 : Int).toNat + 1) _ = true ↔ _) at h2
  have hl : strB .eql s [] = decide ((s.length : Int) < 1) := by
    cases s <;> simp [strB]; omega
  rw [hl]
  generalize ((s.getD (0 : Int).toNat 0).toNat : Int) = c
  simp only [m_spec_l01Small]
  simp only [Bool.cond_eq_ite, Bool.or_eq_true, Bool.not_eq_true', Bool.and_eq_false_iff, decide_eq_true_eq, decide_eq_false_iff_not]
  have e : (∀ j : Nat, (0 : Int) ≤ j → j < s.length → ((decide ((((s.getD (j : Int).toNat 0).toNat : Nat) : Int) < 97) || decide (122 < (((s.getD (j : Int).toNat 0).toNat : Nat) : Int))) && (decide ((((s.getD (j : Int).toNat 0).toNat : Nat) : Int) < 48) || decide (57 < (((s.getD (j : Int).toNat 0).toNat : Nat) : Int)))) = false) ↔ (∀ j : Nat, (0 : Int) ≤ j → j < s.length → (!m_spec_l01Small (((s.getD (j : Int).toNat 0).toNat : Nat) : Int) && !m_spec_l01Digit (((s.getD (j : Int).toNat 0).toNat : Nat) : Int)) = false) := by
    refine forall_congr' fun j => forall_congr' fun _ => forall_congr' fun _ => ?_
    generalize (((s.getD (j : Int).toNat 0).toNat : Nat) : Int) = c
    simp only [m_spec_l01Small, m_spec_l01Digit, Bool.and_eq_false_iff, Bool.or_eq_false_iff, Bool.not_eq_false', Bool.and_eq_true, decide_eq_true_eq, decide_eq_false_iff_not]
    omega
  split <;> rename_i h1' <;> split <;> rename_i h2'
  · simp
  · exfalso; omega
  · exfalso; omega
  · rw [h1, h2, e]
theorem within_eq (n l h : Int) : m_impl_within n l h = m_spec_l00In n l h := rfl
theorem bytes_tri : ∀ (a b : List UInt8), (Op.bytesLess a b || a == b) = !Op.bytesLess b a
  | [], [] => rfl
  | [], _ :: _ => rfl
  | _ :: _, [] => rfl
  | x :: a, y :: b => by
    have ih := bytes_tri a b
    simp only [Op.bytesLess]
    by_cases h1 : x < y
    · have h2 : ¬ y < x := fun h => absurd (UInt8.lt_trans h1 h) (UInt8.lt_irrefl _)
      have h3 : ¬ (y == x) = true := fun h => by rw [beq_iff_eq] at h; subst h; exact h2 h1
      simp [h1, h2, h3]
    · by_cases h2 : y < x
      · have h3 : ¬ (x == y) = true := fun h => by rw [beq_iff_eq] at h; subst h; exact h1 h2
        have h4 : ¬ x = y := fun h => h3 (by simp [h])
        simp [h1, h2, h4]
      · have h3 : x = y := UInt8.le_antisymm (UInt8.not_lt.1 h2) (UInt8.not_lt.1 h1)
        subst h3
        simp only [h1, decide_false, Bool.false_or, beq_self_eq_true, Bool.true_and]
        rw [← ih]
        simp
theorem strleq_geq (a b : List UInt8) : strB .leq a b = strB .geq b a := bytes_tri a b
theorem airway_eq (a : gAirway) : m_impl_ValidAirway a = m_spec_l03Ok a := by
  simp only [m_impl_ValidAirway, m_spec_l03Ok, name_eq, m_impl_junctionOk, within_eq]
  cases m_spec_l01Name a.Id <;> cases m_spec_l00In a.From 0 15 <;> cases m_spec_l00In a.To 0 15 <;> by_cases h : a.From = a.To <;> (try simp [h]) <;> (have hb : (a.From == a.To) = false := by simpa using h) <;> simp [bne, hb, Bool.and_assoc]
theorem mine_eq (m : gMine) : m_impl_ValidMine m = m_spec_l04Ok m := by
  rw [Bool.eq_iff_iff]
  have h1 := LOOP_all (b := m_impl_ValidMine_b1 m) (n := m.Airways.length) (fun rec k i _ => rfl) (k := fun _ => true) (((m.Airways.length : Int) - 0 : Int).toNat + 1) 0 (by omega) (by omega) (by omega)
  have h2 := LOOP_all (b := m_spec_l04Ok_b1 m) (n := m.Airways.length) (fun rec k i _ => rfl) (k := fun _ => decide ((m.Airways.length : Int) ≤ 24)) (((m.Airways.length : Int) - 0 : Int).toNat + 1) 0 (by omega) (by omega) (by omega)
  simp only [m_impl_ValidMine, m_spec_l04Ok, within_eq]
  cases hj : m_spec_l00In m.Junctions 1 16 with
  | false => simp
  | true =>
    simp only [Bool.not_true, Bool.false_or, Bool.cond_false]
    by_cases hl : (24 : Int) < (m.Airways.length : Int)
    · simp only [hl, decide_true, Bool.cond_true]
      rw [h2]
      simp only [Bool.false_eq_true, false_iff]
      rintro ⟨_, h⟩
      simp at h; omega
    · simp only [hl, decide_false, Bool.cond_false]
      rw [h1, h2]
      simp only [airway_eq, strleq_geq, m_impl_Mine_hasEnds, m_impl_Mine_hasJunction, within_eq, m_spec_l04Junction]
      have e : ∀ p q r s : Bool, ((!p || !(q && r)) || s) = (((!p || !q) || !r) || s) := by decide
      simp only [e]
      simp; omega
/-- what a mine's numbers are -/
def AirIn (J : Int) (a : gAirway) : Prop := 0 ≤ a.From ∧ a.From < J ∧ 0 ≤ a.To ∧ a.To < J ∧ a.From ≠ a.To ∧ 1 ≤ a.Length ∧ a.Length ≤ 10000 ∧ 50 ≤ a.Section ∧ a.Section ≤ 5000
def MineIn (m : gMine) : Prop := (1 ≤ m.Junctions ∧ m.Junctions ≤ 16) ∧ m.Airways.length ≤ 24 ∧ ∀ a ∈ m.Airways, AirIn m.Junctions a
theorem l03Ok_imp {a : gAirway} (h : m_spec_l03Ok a = true) : a.From ≠ a.To ∧ 1 ≤ a.Length ∧ a.Length ≤ 10000 ∧ 50 ≤ a.Section ∧ a.Section ≤ 5000 := by
  simp only [m_spec_l03Ok] at h
  cases hc : (((!(m_spec_l01Name a.Id)) || (!(m_spec_l00In a.From 0 15))) || (!(m_spec_l00In a.To 0 15))) || (a.From == a.To) with
  | true => rw [hc] at h; simp at h
  | false =>
    rw [hc] at h
    simp only [Bool.cond_false, m_spec_l00In, Bool.and_eq_true, decide_eq_true_eq] at h
    simp only [Bool.or_eq_false_iff, beq_eq_false_iff_ne, ne_eq] at hc
    exact ⟨hc.2, by omega⟩
theorem l04Ok_imp {m : gMine} (h : m_spec_l04Ok m = true) : MineIn m := by
  have h2 := LOOP_all (b := m_spec_l04Ok_b1 m) (n := m.Airways.length) (fun rec k i _ => rfl) (k := fun _ => decide ((m.Airways.length : Int) ≤ 24)) (((m.Airways.length : Int) - 0 : Int).toNat + 1) 0 (by omega) (by omega) (by omega)
  simp only [m_spec_l04Ok] at h
  cases hj : m_spec_l00In m.Junctions 1 16 with
  | false => rw [hj] at h; simp at h
  | true =>
    rw [hj] at h
    simp only [Bool.not_true, Bool.cond_false] at h
    rw [h2] at h
    obtain ⟨h3, h4⟩ := h
    simp only [m_spec_l00In, Bool.and_eq_true, decide_eq_true_eq] at hj h4
    refine ⟨⟨hj.1, hj.2⟩, by omega, all_at.2 fun j hjl => ?_⟩
    have := h3 j (by omega) hjl
    have hw : IntKind.wrap .i64 (m.Junctions - 1) = m.Junctions - 1 := wr64 (by omega)
    simp only [Bool.or_eq_false_iff, Bool.not_eq_false', m_spec_l04Junction, m_spec_l00In, Bool.and_eq_true, decide_eq_true_eq, hw] at this
    have h5 := l03Ok_imp this.1.1.1
    unfold AirIn
    omega
theorem ValidMine_imp {m : gMine} (h : m_impl_ValidMine m = true) : MineIn m := l04Ok_imp (by rw [← mine_eq]; exact h)
theorem MineIn.at {m : gMine} {i : Int} (h : MineIn m) (hi : 0 ≤ i ∧ i < m.Airways.length) : AirIn m.Junctions (at' m.Airways i) := at_all h.2.2 hi
/-! ### Lists in the order of their names -/
section
variable {α : Type} [Inhabited α] {list : List α} {N : Int}
theorem valid_iff {b : (Int → Bool) → (Int → Bool) → Int → Bool} {k : Int → Bool} (v : α → Bool) (id : α → List UInt8)
    (hb : ∀ rec k i, 0 ≤ i → b rec k i = bif decide (i < (list.length : Int)) then (bif (!(v (at' list i))) || ((decide (0 < i)) && (strB .geq (id (at' list (i - 1))) (id (at' list i)))) then false else rec (i + 1)) else k i) :
    LOOP b k (((list.length : Int) - 0 : Int).toNat + 1) 0 = true ↔ (∀ j : Nat, (j : Int) < list.length → v (at' list j) = true ∧ (decide (0 < (j : Int)) && strB .geq (id (at' list ((j : Int) - 1))) (id (at' list j))) = false) ∧ k list.length = true := by
  rw [LOOP_all (n := list.length) hb _ 0 (by omega) (by omega) (by omega)]
  simp only [Bool.or_eq_false_iff, Bool.not_eq_false']
  constructor
  · rintro ⟨h1, h2⟩; exact ⟨fun j hj => h1 j (by omega) (by omega), h2⟩
  · rintro ⟨h1, h2⟩; exact ⟨fun j _ hj => h1 j (by omega), h2⟩
theorem valid_eq {b b' : (Int → Bool) → (Int → Bool) → Int → Bool} (v v' : α → Bool) (id : α → List UInt8) (ok : Bool)
    (hb : ∀ rec k i, 0 ≤ i → b rec k i = bif decide (i < (list.length : Int)) then (bif (!(v (at' list i))) || ((decide (0 < i)) && (strB .leq (id (at' list i)) (id (at' list (i - 1))))) then false else rec (i + 1)) else k i)
    (hb' : ∀ rec k i, 0 ≤ i → b' rec k i = bif decide (i < (list.length : Int)) then (bif (!(v' (at' list i))) || ((decide (0 < i)) && (strB .geq (id (at' list (i - 1))) (id (at' list i)))) then false else rec (i + 1)) else k i) (hv : ∀ x, v x = v' x) :
    (bif !ok || decide (N < (list.length : Int)) then false else LOOP b (fun _ => true) (((list.length : Int) - 0 : Int).toNat + 1) 0) = (ok && LOOP b' (fun _ => decide ((list.length : Int) ≤ N)) (((list.length : Int) - 0 : Int).toNat + 1) 0) := by
  cases ok with
  | false => rfl
  | true =>
    simp only [Bool.not_true, Bool.false_or, Bool.true_and]
    rw [Bool.eq_iff_iff, valid_iff v' id hb']
    by_cases hl : N < (list.length : Int)
    · simp only [hl, decide_true, Bool.cond_true, Bool.false_eq_true, false_iff]
      rintro ⟨_, h⟩; simp at h; omega
    · simp only [hl, decide_false, Bool.cond_false]
      rw [valid_iff v id (fun rec k i h => by rw [hb rec k i h, strleq_geq])]
      simp only [hv]
      simp; omega
theorem valid_imp {b : (Int → Bool) → (Int → Bool) → Int → Bool} (v : α → Bool) (id : α → List UInt8)
    (hb : ∀ rec k i, 0 ≤ i → b rec k i = bif decide (i < (list.length : Int)) then (bif (!(v (at' list i))) || ((decide (0 < i)) && (strB .geq (id (at' list (i - 1))) (id (at' list i)))) then false else rec (i + 1)) else k i)
    (h : LOOP b (fun _ => decide ((list.length : Int) ≤ N)) (((list.length : Int) - 0 : Int).toNat + 1) 0 = true) : (list.length : Int) ≤ N ∧ ∀ x ∈ list, v x = true := by
  obtain ⟨h1, h2⟩ := (valid_iff v id hb).1 h
  exact ⟨by simpa using h2, all_at.2 fun j hj => (h1 j (by omega)).1⟩
end
theorem l00In_imp {n a b : Int} (h : m_spec_l00In n a b = true) : a ≤ n ∧ n ≤ b := by simpa [m_spec_l00In] using h
theorem within_imp {n a b : Int} (h : m_impl_within n a b = true) : a ≤ n ∧ n ≤ b := by simpa [m_impl_within] using h

end Go.Proofs.Ytibbfdojcdkopaa
