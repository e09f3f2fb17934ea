/-
  PLAIN LAWS about the models: no program in sight. Conditions: as each theorem states them.
-/
import Derived.Test.YtandefcnbemclaaDoorExactSourceTextModels
set_option linter.unusedVariables false
set_option linter.unusedSimpArgs false
set_option linter.unusedSectionVars false
set_option linter.unnecessarySimpa false
namespace Go.Proofs.YtandefcnbemclaaDoor
open Go Go.RowKit Go.Proofs Go.Proofs.YtandefcnbemclaaDoor.E
/-! ## Sizes, copies, equality: printed by a program of this claim -/
abbrev gSource.ok (x : gSource) : Prop := (x.Id.length ≤ 9223372036854775807) ∧ (-9223372036854775808 ≤ x.Airway ∧ x.Airway ≤ 9223372036854775807) ∧ (-9223372036854775808 ≤ x.Rate ∧ x.Rate ≤ 9223372036854775807)
abbrev gSource.sz (x : gSource) : Prop := (x.Id.length ≤ 1048576)
theorem szSource_le {a : gSource} {l : Int} (hs : gSource.ok a) (h0 : 0 ≤ l) (h1 : l ≤ 1048576) : m_laws_szSource a l ≤ l ∧ (0 ≤ m_laws_szSource a l → gSource.sz a) := by
  have hs' := hs
  unfold gSource.ok at hs'
  simp only [m_laws_szSource, gSource.sz]
  rw [wr64 (n := l - (a.Id.length : Int)) (by omega)]
  by_cases h_1 : (l - (a.Id.length : Int)) < 0
  · simp only [h_1, decide_true, Bool.cond_true]; exact ⟨by omega, fun h => absurd h (by omega)⟩
  simp only [h_1, decide_false, Bool.cond_false]
  exact ⟨by omega, fun _ => by omega⟩
theorem szSource_impA {a : gSource} {l : Int} (hs : gSource.ok a) (h0 : 0 ≤ l) (h1 : l ≤ 1048576) (h : 0 ≤ m_laws_szSource a l) : m_laws_szSource a l ≤ l := (szSource_le hs h0 h1).1
theorem szSource_impB {a : gSource} {l : Int} (hs : gSource.ok a) (h0 : 0 ≤ l) (h1 : l ≤ 1048576) (h : 0 ≤ m_laws_szSource a l) : gSource.sz a := (szSource_le hs h0 h1).2 h
theorem toSource_eq (a : gSource) : m_laws_toSource a = a := by simp only [m_laws_toSource]

end Go.Proofs.YtandefcnbemclaaDoor
