/-
  PLAIN LAWS about the models: no program in sight. Conditions: as each theorem states them.
-/
import Derived.Test.YtchjibndocnnhaaCrewsPlain3
set_option linter.unusedVariables false
set_option linter.unusedSimpArgs false
set_option linter.unusedSectionVars false
set_option linter.unnecessarySimpa false
namespace Go.Proofs.Ytchjibndocnnhaa
open Go Go.RowKit Go.Proofs Go.Proofs.Ytchjibndocnnhaa.E
theorem Lim.among {s : gl00Src} {n : Int} {l : List Int} (h : Lim s n) : Lim (m_spec_l00Src_among s l).2.1 (n + 2) := h.pick

end Go.Proofs.Ytchjibndocnnhaa
