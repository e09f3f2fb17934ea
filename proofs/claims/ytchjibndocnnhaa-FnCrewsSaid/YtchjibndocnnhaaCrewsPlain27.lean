/-
  PLAIN LAWS about the models: no program in sight. Conditions: as each theorem states them.
-/
import Derived.Test.YtchjibndocnnhaaCrewsPlain26
set_option linter.unusedVariables false
set_option linter.unusedSimpArgs false
set_option linter.unusedSectionVars false
set_option linter.unnecessarySimpa false
namespace Go.Proofs.Ytchjibndocnnhaa
open Go Go.RowKit Go.Proofs Go.Proofs.Ytchjibndocnnhaa.E
/-! ## Draws of jobs -/
theorem Lim.bifJ {c : Bool} {a b : gJob × gl00Src} {n : Int} (h1 : Lim a.2 n) (h2 : Lim b.2 n) : Lim (bif c then a else b).2 n := by cases c <;> assumption
theorem Lim.job {s : gl00Src} {n : Int} {m : gMine} {id : List UInt8} (h : Lim s n) : Lim (m_spec_l23DrawOne s m id).2 (n + 12) := by
  simp only [m_spec_l23DrawOne]
  have h4 := (((h.pick (k := 12)).pick (k := m_spec_l00Max 1 (m_spec_l00Min 3 (m.Airways.length : Int)))).among (l := ([0, 20, 60, 120] : List Int))).pick (k := 40)
  exact Lim.bifJ (h4.among.mono (by omega)) (Lim.bifJ (h4.among.mono (by omega)) (Lim.bifJ (h4.among.mono (by omega)) (h4.mono (by omega))))
theorem fl_len {m : gMine} {f : Int → Int} : ((irange 0 m.Airways.length).map f).length = m.Airways.length := by rw [List.length_map, irange_len]

end Go.Proofs.Ytchjibndocnnhaa
