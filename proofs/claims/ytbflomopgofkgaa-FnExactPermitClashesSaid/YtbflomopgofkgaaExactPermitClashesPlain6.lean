/-
  PLAIN LAWS about the models: no program in sight. Conditions: as each theorem states them.
-/
import Derived.Test.YtbflomopgofkgaaExactPermitClashesPlain5
set_option linter.unusedVariables false
set_option linter.unusedSimpArgs false
set_option linter.unusedSectionVars false
set_option linter.unnecessarySimpa false
namespace Go.Proofs.Ytbflomopgofkgaa
open Go Go.RowKit Go.Proofs Go.Proofs.Ytbflomopgofkgaa.E
/-! ## Clashes of permits: both models judge alike -/
theorem other_eq (a : gAirway) (j : Int) : (m_impl_Airway_other a j).2 = (j == a.From || j == a.To) := by
  simp only [m_impl_Airway_other]
  cases h1 : j == a.From <;> cases h2 : j == a.To <;> simp
theorem kinds_eq {a b : Int} {same : Bool} (ha : m_spec_l00In a 1 4 = true) (hb : m_spec_l00In b 1 4 = true) : m_impl_KindsClash a b same = m_spec_l26Kinds (m_spec_l00Min b a) (m_spec_l00Max b a) same := by
  simp only [m_spec_l00In, Bool.and_eq_true, decide_eq_true_eq] at ha hb
  have h1 : a = 1 ∨ a = 2 ∨ a = 3 ∨ a = 4 := by omega
  have h2 : b = 1 ∨ b = 2 ∨ b = 3 ∨ b = 4 := by omega
  rcases h1 with h1 | h1 | h1 | h1 <;> rcases h2 with h2 | h2 | h2 | h2 <;> subst h1 <;> subst h2 <;> cases same <;> decide
theorem clash_eq {m : gMine} {x y : gPermit} (hx : m_spec_l00In x.Kind 1 4 = true) (hy : m_spec_l00In y.Kind 1 4 = true) : m_impl_Mine_clash m x y = m_spec_l26Clash m y x := by
  simp only [m_impl_Mine_clash, m_spec_l26Clash, other_eq, kinds_eq hx hy]
  have e : (x.Airway == y.Airway) = (y.Airway == x.Airway) := by rw [Bool.eq_iff_iff]; simp; exact eq_comm
  rw [e]
  generalize at' m.Airways x.Airway = a
  generalize at' m.Airways y.Airway = b
  have e2 : (((a.From == b.From || a.From == b.To) || (a.To == b.From || a.To == b.To)) = true) ↔ ((((b.From == a.From || b.From == a.To) || b.To == a.From) || b.To == a.To) = true) := by
    simp only [Bool.or_eq_true, beq_iff_eq]; omega
  rw [← Bool.eq_iff_iff] at e2
  rw [e2]
  have e3 : (decide (y.Until ≤ x.From) || decide (x.Until ≤ y.From)) = (decide (x.Until ≤ y.From) || decide (y.Until ≤ x.From)) := Bool.or_comm ..
  rw [e3]
theorem clash_sym {m : gMine} {x y : gPermit} : m_spec_l26Clash m x y = m_spec_l26Clash m y x := by
  simp only [m_spec_l26Clash]
  have e : (x.Airway == y.Airway) = (y.Airway == x.Airway) := by rw [Bool.eq_iff_iff]; simp; exact eq_comm
  have e3 : (decide (y.Until ≤ x.From) || decide (x.Until ≤ y.From)) = (decide (x.Until ≤ y.From) || decide (y.Until ≤ x.From)) := Bool.or_comm ..
  have e4 : m_spec_l00Min x.Kind y.Kind = m_spec_l00Min y.Kind x.Kind := by simp only [m_spec_l00Min]; rw [Bool.cond_eq_ite, Bool.cond_eq_ite]; split <;> split <;> simp_all <;> omega
  have e5 : m_spec_l00Max x.Kind y.Kind = m_spec_l00Max y.Kind x.Kind := by simp only [m_spec_l00Max]; rw [Bool.cond_eq_ite, Bool.cond_eq_ite]; split <;> split <;> simp_all <;> omega
  rw [e, e3, e4, e5]
  generalize at' m.Airways x.Airway = a
  generalize at' m.Airways y.Airway = b
  have e2 : ((((a.From == b.From || a.From == b.To) || a.To == b.From) || a.To == b.To) = true) ↔ ((((b.From == a.From || b.From == a.To) || b.To == a.From) || b.To == a.To) = true) := by
    simp only [Bool.or_eq_true, beq_iff_eq]; omega
  rw [← Bool.eq_iff_iff] at e2
  rw [e2]

end Go.Proofs.Ytbflomopgofkgaa
