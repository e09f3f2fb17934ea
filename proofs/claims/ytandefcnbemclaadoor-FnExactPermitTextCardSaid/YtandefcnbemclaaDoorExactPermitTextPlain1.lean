/-
  PLAIN LAWS about the models: no program in sight. Conditions: as each theorem states them.
-/
import Derived.Test.YtandefcnbemclaaDoorExactPermitTextModels
set_option linter.unusedVariables false
set_option linter.unusedSimpArgs false
set_option linter.unusedSectionVars false
set_option linter.unnecessarySimpa false
namespace Go.Proofs.YtandefcnbemclaaDoor
open Go Go.RowKit Go.Proofs Go.Proofs.YtandefcnbemclaaDoor.E
/-! ## Sizes, copies, equality: printed by a program of this claim -/
abbrev gPermit.ok (x : gPermit) : Prop := (x.Id.length ≤ 9223372036854775807) ∧ (-9223372036854775808 ≤ x.Kind ∧ x.Kind ≤ 9223372036854775807) ∧ (-9223372036854775808 ≤ x.Airway ∧ x.Airway ≤ 9223372036854775807) ∧ (-9223372036854775808 ≤ x.From ∧ x.From ≤ 9223372036854775807) ∧ (-9223372036854775808 ≤ x.Until ∧ x.Until ≤ 9223372036854775807)
abbrev gPermit.sz (x : gPermit) : Prop := (x.Id.length ≤ 1048576)
theorem szPermit_le {a : gPermit} {l : Int} (hs : gPermit.ok a) (h0 : 0 ≤ l) (h1 : l ≤ 1048576) : m_laws_szPermit a l ≤ l ∧ (0 ≤ m_laws_szPermit a l → gPermit.sz a) := by
  have hs' := hs
  unfold gPermit.ok at hs'
  simp only [m_laws_szPermit, gPermit.sz]
  rw [wr64 (n := l - (a.Id.length : Int)) (by omega)]
  by_cases h_1 : (l - (a.Id.length : Int)) < 0
  · simp only [h_1, decide_true, Bool.cond_true]; exact ⟨by omega, fun h => absurd h (by omega)⟩
  simp only [h_1, decide_false, Bool.cond_false]
  exact ⟨by omega, fun _ => by omega⟩
theorem szPermit_impA {a : gPermit} {l : Int} (hs : gPermit.ok a) (h0 : 0 ≤ l) (h1 : l ≤ 1048576) (h : 0 ≤ m_laws_szPermit a l) : m_laws_szPermit a l ≤ l := (szPermit_le hs h0 h1).1
theorem szPermit_impB {a : gPermit} {l : Int} (hs : gPermit.ok a) (h0 : 0 ≤ l) (h1 : l ≤ 1048576) (h : 0 ≤ m_laws_szPermit a l) : gPermit.sz a := (szPermit_le hs h0 h1).2 h
theorem toPermit_eq (a : gPermit) : m_laws_toPermit a = a := by simp only [m_laws_toPermit]

end Go.Proofs.YtandefcnbemclaaDoor
