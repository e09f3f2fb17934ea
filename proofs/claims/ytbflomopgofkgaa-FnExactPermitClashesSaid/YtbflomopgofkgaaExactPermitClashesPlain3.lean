/-
  PLAIN LAWS about the models: no program in sight. Conditions: as each theorem states them.
-/
import Derived.Test.YtbflomopgofkgaaExactPermitClashesPlain2
set_option linter.unusedVariables false
set_option linter.unusedSimpArgs false
set_option linter.unusedSectionVars false
set_option linter.unnecessarySimpa false
namespace Go.Proofs.Ytbflomopgofkgaa
open Go Go.RowKit Go.Proofs Go.Proofs.Ytbflomopgofkgaa.E
/-! ## Labels of what a closure holds -/
theorem labB_ro {C : List V} (h : C.all V.ro = true) : C.flatMap V.labB = [] := by
  rw [List.flatMap_eq_nil_iff]
  intro v hv
  have := List.all_eq_true.1 h v hv
  cases v <;> first | rfl | (simp [V.ro] at this)
theorem cpy_tail_len {α : Type} {xs : List α} {o : Nat} {z : α} : (cpy xs o (List.replicate ((xs.length : Int).toNat - o) z)).length = xs.length := by
  simp only [cpy, List.length_append, List.length_take, List.length_drop, List.length_replicate, Int.toNat_natCast]; omega
theorem pre_len2 {α : Type} {xs : List α} {b : Int} : (pre' xs b).length = min b.toNat xs.length := by unfold pre'; rw [List.length_take]

end Go.Proofs.Ytbflomopgofkgaa
