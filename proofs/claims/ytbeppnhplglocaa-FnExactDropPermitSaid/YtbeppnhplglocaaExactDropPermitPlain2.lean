/-
  PLAIN LAWS about the models: no program in sight. Conditions: as each theorem states them.
-/
import Derived.Test.YtbeppnhplglocaaExactDropPermitPlain1
set_option linter.unusedVariables false
set_option linter.unusedSimpArgs false
set_option linter.unusedSectionVars false
set_option linter.unnecessarySimpa false
namespace Go.Proofs.Ytbeppnhplglocaa
open Go Go.RowKit Go.Proofs Go.Proofs.Ytbeppnhplglocaa.E
theorem del_row {α : Type} {s : List α} {i j : Int} (h : 0 ≤ i ∧ i ≤ j ∧ j ≤ s.length) : (cpy s (pre' s i).length (cut' s j (s.length : Int))).length = s.length := by
  simp only [cpy, pre', cut', List.length_append, List.length_take, List.length_drop]; omega
theorem cpy_tail3 {α : Type} {s A : List α} {o : Nat} {z : α} (h : A.length = s.length) : (cpy A o (List.replicate ((s.length : Int).toNat - o) z)).length = A.length := by
  simp only [cpy, List.length_append, List.length_take, List.length_drop, List.length_replicate]; omega
theorem pre_len2 {α : Type} {xs : List α} {b : Int} : (pre' xs b).length = min b.toNat xs.length := by unfold pre'; rw [List.length_take]

end Go.Proofs.Ytbeppnhplglocaa
