/-
  PLAIN LAWS about the models: no program in sight. Conditions: as each theorem states them.
-/
import Derived.Test.YtandefcnbemclaaDoorExactRefugeTextModels
set_option linter.unusedVariables false
set_option linter.unusedSimpArgs false
set_option linter.unusedSectionVars false
set_option linter.unnecessarySimpa false
namespace Go.Proofs.YtandefcnbemclaaDoor
open Go Go.RowKit Go.Proofs Go.Proofs.YtandefcnbemclaaDoor.E
/-! ## Sizes, copies, equality: printed by a program of this claim -/
abbrev gRefuge.ok (x : gRefuge) : Prop := (x.Id.length ≤ 9223372036854775807) ∧ (-9223372036854775808 ≤ x.Junction ∧ x.Junction ≤ 9223372036854775807) ∧ (-9223372036854775808 ≤ x.Places ∧ x.Places ≤ 9223372036854775807) ∧ (-9223372036854775808 ≤ x.Air ∧ x.Air ≤ 9223372036854775807)
abbrev gRefuge.sz (x : gRefuge) : Prop := (x.Id.length ≤ 1048576)
theorem szRefuge_le {a : gRefuge} {l : Int} (hs : gRefuge.ok a) (h0 : 0 ≤ l) (h1 : l ≤ 1048576) : m_laws_szRefuge a l ≤ l ∧ (0 ≤ m_laws_szRefuge a l → gRefuge.sz a) := by
  have hs' := hs
  unfold gRefuge.ok at hs'
  simp only [m_laws_szRefuge, gRefuge.sz]
  rw [wr64 (n := l - (a.Id.length : Int)) (by omega)]
  by_cases h_1 : (l - (a.Id.length : Int)) < 0
  · simp only [h_1, decide_true, Bool.cond_true]; exact ⟨by omega, fun h => absurd h (by omega)⟩
  simp only [h_1, decide_false, Bool.cond_false]
  exact ⟨by omega, fun _ => by omega⟩
theorem szRefuge_impA {a : gRefuge} {l : Int} (hs : gRefuge.ok a) (h0 : 0 ≤ l) (h1 : l ≤ 1048576) (h : 0 ≤ m_laws_szRefuge a l) : m_laws_szRefuge a l ≤ l := (szRefuge_le hs h0 h1).1
theorem szRefuge_impB {a : gRefuge} {l : Int} (hs : gRefuge.ok a) (h0 : 0 ≤ l) (h1 : l ≤ 1048576) (h : 0 ≤ m_laws_szRefuge a l) : gRefuge.sz a := (szRefuge_le hs h0 h1).2 h
theorem toRefuge_eq (a : gRefuge) : m_laws_toRefuge a = a := by simp only [m_laws_toRefuge]

end Go.Proofs.YtandefcnbemclaaDoor
