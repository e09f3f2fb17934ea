/-
  PLAIN LAWS about the models: no program in sight. Conditions: as each theorem states them.
-/
import Derived.Test.YtchjibndocnnhaaCrewsPlain4
set_option linter.unusedVariables false
set_option linter.unusedSimpArgs false
set_option linter.unusedSectionVars false
set_option linter.unnecessarySimpa false
namespace Go.Proofs.Ytchjibndocnnhaa
open Go Go.RowKit Go.Proofs Go.Proofs.Ytchjibndocnnhaa.E
theorem Lim.draw3 {s : gl00Src} {n : Int} {id : List UInt8} {a b : Int} (h : Lim s n) : Lim (m_spec_l03DrawOk s id a b).2 (n + 8) := h.pick.pick.pick.pick.mono (by omega)

end Go.Proofs.Ytchjibndocnnhaa
