/-
  PLAIN LAWS about the models: no program in sight. Conditions: as each theorem states them.
-/
import Derived.Test.YtbflomopgofkgaaExactPermitClashesPlain3
set_option linter.unusedVariables false
set_option linter.unusedSimpArgs false
set_option linter.unusedSectionVars false
set_option linter.unnecessarySimpa false
namespace Go.Proofs.Ytbflomopgofkgaa
open Go Go.RowKit Go.Proofs Go.Proofs.Ytbflomopgofkgaa.E
theorem permit_eq (x : gPermit) : m_impl_Permit_valid x = m_spec_l26One x := by
  simp only [m_impl_Permit_valid, m_spec_l26One, name_eq, m_impl_kindOk, m_spec_l26Kind, m_spec_l14Airway, within_eq]
  generalize (m_spec_l01Name x.Id && m_spec_l00In x.Kind 1 4 && m_spec_l00In x.Airway 0 23) = p
  cases p with
  | false => simp
  | true =>
    simp only [Bool.true_and, m_spec_l00In]
    rw [Bool.eq_iff_iff]
    simp only [Bool.and_eq_true, decide_eq_true_eq]
    by_cases h1 : 0 ≤ x.Until ∧ x.Until ≤ 100000
    · by_cases h2 : 0 ≤ x.From ∧ x.From ≤ 99999
      · rw [wr64 (by omega), wr64 (by omega)]; omega
      · rw [wr64 (by omega)]; constructor
        · intro h; omega
        · intro h; omega
    · constructor
      · intro h; omega
      · intro h
        rw [wr64 (by omega)] at h; omega
/-- what a permit's numbers are -/
theorem one_imp {x : gPermit} (h : m_spec_l26One x = true) : 0 ≤ x.Airway ∧ 0 ≤ x.From ∧ x.From < x.Until ∧ x.Until ≤ 100000 ∧ m_spec_l00In x.Kind 1 4 = true := by
  simp only [m_spec_l26One, m_spec_l14Airway, m_spec_l26Kind, Bool.and_eq_true] at h
  obtain ⟨⟨⟨⟨_, hk⟩, ha⟩, hf⟩, hu⟩ := h
  simp only [m_spec_l00In, Bool.and_eq_true, decide_eq_true_eq] at ha hf hu
  rw [wr64 (by omega)] at hu
  exact ⟨ha.1, hf.1, by omega, hu.2, hk⟩
theorem permits_eq (m : gMine) (list : List gPermit) : m_impl_ValidPermits m list = m_spec_l26Ok m list := by
  rw [Bool.eq_iff_iff]
  have h1 := LOOP_all (b := m_impl_ValidPermits_b1 m list) (n := list.length) (fun rec k i _ => rfl) (k := fun _ => true) (((list.length : Int) - 0 : Int).toNat + 1) 0 (by omega) (by omega) (by omega)
  have h2 := LOOP_all (b := m_spec_l26Ok_b1 m list) (n := list.length) (fun rec k i _ => rfl) (k := fun _ => true) (((list.length : Int) - 0 : Int).toNat + 1) 0 (by omega) (by omega) (by omega)
  have e : ∀ x : gPermit, ∀ q : Bool, (!m_impl_Permit_valid x || !m_impl_indexValid_impl_Airway m.Airways x.Airway || q) = (!m_spec_l26One x || decide ((m.Airways.length : Int) ≤ x.Airway) || q) := fun x q => by
    rw [permit_eq, index_eq]
    cases ho : m_spec_l26One x with
    | false => rfl
    | true =>
      have := (one_imp ho).1
      have hd : decide (0 ≤ x.Airway) = true := by simpa using this
      rw [hd]
      by_cases hl : x.Airway < (m.Airways.length : Int)
      · have : ¬ (m.Airways.length : Int) ≤ x.Airway := by omega
        simp [hl, this]
      · have : (m.Airways.length : Int) ≤ x.Airway := by omega
        simp [hl, this]
  simp only [m_impl_ValidPermits, m_spec_l26Ok, mine_eq]
  cases hc : (!m_spec_l04Ok m || decide (16 < (list.length : Int))) with
  | true => simp
  | false =>
    simp only [Bool.cond_false]
    rw [h1, h2]
    simp only [e, strleq_geq]
/-- what the permits of a list are -/
def PmIn (n : Nat) (list : List gPermit) : Prop := ∀ y ∈ list, 0 ≤ y.Airway ∧ y.Airway < n ∧ 0 ≤ y.From ∧ y.From < y.Until ∧ y.Until ≤ 100000 ∧ m_spec_l00In y.Kind 1 4 = true
theorem l26Ok_imp {m : gMine} {list : List gPermit} (h : m_spec_l26Ok m list = true) : PmIn m.Airways.length list := by
  have h2 := LOOP_all (b := m_spec_l26Ok_b1 m list) (n := list.length) (fun rec k i _ => rfl) (k := fun _ => true) (((list.length : Int) - 0 : Int).toNat + 1) 0 (by omega) (by omega) (by omega)
  simp only [m_spec_l26Ok] at h
  cases hc : (!m_spec_l04Ok m || decide (16 < (list.length : Int))) with
  | true => rw [hc] at h; simp at h
  | false =>
    rw [hc] at h
    simp only [Bool.cond_false] at h
    rw [h2] at h
    unfold PmIn
    rw [all_at]
    intro j hj
    have := h.1 j (by omega) hj
    simp only [Bool.or_eq_false_iff, Bool.not_eq_false', decide_eq_false_iff_not] at this
    have h1 := one_imp this.1.1
    refine ⟨h1.1, by have := this.1.2; omega, h1.2.1, h1.2.2.1, h1.2.2.2⟩
theorem ValidPermits_imp {m : gMine} {list : List gPermit} (h : m_impl_ValidPermits m list = true) : PmIn m.Airways.length list := l26Ok_imp (by rw [← permits_eq]; exact h)
theorem permit_imp {x : gPermit} (h : m_impl_Permit_valid x = true) : 0 ≤ x.Airway ∧ 0 ≤ x.From ∧ x.From < x.Until ∧ x.Until ≤ 100000 ∧ m_spec_l00In x.Kind 1 4 = true := one_imp (by rw [← permit_eq]; exact h)
theorem PmIn.at {n : Nat} {list : List gPermit} {i : Int} (h : PmIn n list) (hi : 0 ≤ i ∧ i < list.length) : 0 ≤ (at' list i).Airway ∧ (at' list i).Airway < n ∧ 0 ≤ (at' list i).From ∧ (at' list i).From < (at' list i).Until ∧ (at' list i).Until ≤ 100000 := by
  have := at_all h hi
  exact ⟨this.1, this.2.1, this.2.2.1, this.2.2.2.1, this.2.2.2.2.1⟩
theorem PmIn.air {n : Nat} {list : List gPermit} (h : PmIn n list) : ∀ y ∈ list, 0 ≤ y.Airway ∧ y.Airway < n := fun y hy => ⟨(h y hy).1, (h y hy).2.1⟩

end Go.Proofs.Ytbflomopgofkgaa
