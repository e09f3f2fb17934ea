/-
  PLAIN LAWS about the models: no program in sight. Conditions: as each theorem states them.
-/
import Derived.Test.YtbflomopgofkgaaExactPermitClashesPlain4
set_option linter.unusedVariables false
set_option linter.unusedSimpArgs false
set_option linter.unusedSectionVars false
set_option linter.unnecessarySimpa false
namespace Go.Proofs.Ytbflomopgofkgaa
open Go Go.RowKit Go.Proofs Go.Proofs.Ytbflomopgofkgaa.E
theorem l26_all {m : gMine} {list : List gPermit} : m_spec_l26Ok m list = true ↔ (m_spec_l04Ok m = true ∧ list.length ≤ 16) ∧ ∀ j : Nat, j < list.length → m_spec_l26One (at' list j) = true ∧ ¬ (m.Airways.length : Int) ≤ (at' list j).Airway ∧ (0 < j → strB .geq (at' list ((j : Int) - 1)).Id (at' list j).Id = false) := by
  have h2 := LOOP_all (b := m_spec_l26Ok_b1 m list) (n := list.length) (fun rec k i _ => rfl) (k := fun _ => true) (((list.length : Int) - 0 : Int).toNat + 1) 0 (by omega) (by omega) (by omega)
  simp only [m_spec_l26Ok]
  cases h4 : m_spec_l04Ok m with
  | false => simp
  | true =>
    by_cases hl : 16 < (list.length : Int)
    · simp only [hl, decide_true, Bool.or_true, Bool.cond_true]
      constructor
      · intro h; simp at h
      · rintro ⟨⟨_, h⟩, _⟩; omega
    · simp only [hl, decide_false, Bool.not_true, Bool.or_self, Bool.cond_false]
      rw [h2]
      simp only [and_true, true_and]
      constructor
      · intro h
        refine ⟨by omega, fun j hj => ?_⟩
        have := h j (by omega) hj
        simp only [Bool.or_eq_false_iff, Bool.not_eq_false', decide_eq_false_iff_not, Bool.and_eq_false_iff] at this
        refine ⟨this.1.1, this.1.2, fun h0 => ?_⟩
        rcases this.2 with h | h
        · omega
        · exact h
      · rintro ⟨_, h⟩ j _ hj
        have := h j hj
        simp only [Bool.or_eq_false_iff, Bool.not_eq_false', decide_eq_false_iff_not, Bool.and_eq_false_iff]
        refine ⟨⟨this.1, this.2.1⟩, ?_⟩
        by_cases h0 : 0 < j
        · exact .inr (this.2.2 h0)
        · exact .inl (by omega)
theorem l26Ok_len {m : gMine} {list : List gPermit} (h : m_spec_l26Ok m list = true) : list.length ≤ 16 := (l26_all.1 h).1.2
theorem ValidPermits_len {m : gMine} {list : List gPermit} (h : m_impl_ValidPermits m list = true) : list.length ≤ 16 := l26Ok_len (by rw [← permits_eq]; exact h)

end Go.Proofs.Ytbflomopgofkgaa
