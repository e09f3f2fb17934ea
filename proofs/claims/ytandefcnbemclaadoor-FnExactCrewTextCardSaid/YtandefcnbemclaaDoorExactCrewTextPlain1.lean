/-
  PLAIN LAWS about the models: no program in sight. Conditions: as each theorem states them.
-/
import Derived.Test.YtandefcnbemclaaDoorExactCrewTextModels
set_option linter.unusedVariables false
set_option linter.unusedSimpArgs false
set_option linter.unusedSectionVars false
set_option linter.unnecessarySimpa false
namespace Go.Proofs.YtandefcnbemclaaDoor
open Go Go.RowKit Go.Proofs Go.Proofs.YtandefcnbemclaaDoor.E
/-! ## Sizes, copies, equality: printed by a program of this claim -/
abbrev gCrew.ok (x : gCrew) : Prop := (x.Id.length ≤ 9223372036854775807) ∧ (-9223372036854775808 ≤ x.Junction ∧ x.Junction ≤ 9223372036854775807) ∧ (-9223372036854775808 ≤ x.Speed ∧ x.Speed ≤ 9223372036854775807)
abbrev gCrew.sz (x : gCrew) : Prop := (x.Id.length ≤ 1048576)
theorem szCrew_le {a : gCrew} {l : Int} (hs : gCrew.ok a) (h0 : 0 ≤ l) (h1 : l ≤ 1048576) : m_laws_szCrew a l ≤ l ∧ (0 ≤ m_laws_szCrew a l → gCrew.sz a) := by
  have hs' := hs
  unfold gCrew.ok at hs'
  simp only [m_laws_szCrew, gCrew.sz]
  rw [wr64 (n := l - (a.Id.length : Int)) (by omega)]
  by_cases h_1 : (l - (a.Id.length : Int)) < 0
  · simp only [h_1, decide_true, Bool.cond_true]; exact ⟨by omega, fun h => absurd h (by omega)⟩
  simp only [h_1, decide_false, Bool.cond_false]
  exact ⟨by omega, fun _ => by omega⟩
theorem szCrew_impA {a : gCrew} {l : Int} (hs : gCrew.ok a) (h0 : 0 ≤ l) (h1 : l ≤ 1048576) (h : 0 ≤ m_laws_szCrew a l) : m_laws_szCrew a l ≤ l := (szCrew_le hs h0 h1).1
theorem szCrew_impB {a : gCrew} {l : Int} (hs : gCrew.ok a) (h0 : 0 ≤ l) (h1 : l ≤ 1048576) (h : 0 ≤ m_laws_szCrew a l) : gCrew.sz a := (szCrew_le hs h0 h1).2 h
theorem toCrew_eq (a : gCrew) : m_laws_toCrew a = a := by simp only [m_laws_toCrew]

end Go.Proofs.YtandefcnbemclaaDoor
