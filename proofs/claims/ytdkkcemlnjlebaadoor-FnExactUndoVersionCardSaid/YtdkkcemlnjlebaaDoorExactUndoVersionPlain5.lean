/-
  PLAIN LAWS about the models: no program in sight. Conditions: as each theorem states them.
-/
import Derived.Test.YtdkkcemlnjlebaaDoorExactUndoVersionPlain4
set_option linter.unusedVariables false
set_option linter.unusedSimpArgs false
set_option linter.unusedSectionVars false
set_option linter.unnecessarySimpa false
namespace Go.Proofs.YtdkkcemlnjlebaaDoor
open Go Go.RowKit Go.Proofs Go.Proofs.YtdkkcemlnjlebaaDoor.E
/-! ## A version undone -/
theorem undo_par {list : List gVersion} (h : HV list) {n : Int} (hn : 1 ≤ n ∧ n ≤ (list.length : Int)) : list.length ≤ 32 ∧ IntKind.wrap .i64 (n - 1) = n - 1 ∧ (0 ≤ (at' list (n - 1)).Parent ∧ (at' list (n - 1)).Parent ≤ list.length) ∧ (m_spec_l27StateOf list (at' list (IntKind.wrap .i64 (n - 1))).Parent).length ≤ 24 := by
  have hp := h.par (n := n) ⟨by omega, hn.2⟩
  have hl := h.1
  have hw : IntKind.wrap .i64 (n - 1) = n - 1 := wr64 (by omega)
  refine ⟨hl, hw, ⟨hp.1, by omega⟩, ?_⟩
  rw [hw]
  exact vstate24 (list := list) h ⟨hp.1, by omega⟩
theorem hist_eq (list : List gVersion) : m_impl_ValidHistory list = m_spec_l27Ok list := Bool.eq_iff_iff.2 ((histI_iff list).trans (hist_iff list).symm)
theorem number_eq (list : List gVersion) (n : Int) : m_impl_allWithin ([n] : List Int) 1 (list.length : Int) = m_spec_l27Number list n := by
  rw [Bool.eq_iff_iff, allWithin_iff]
  simp [m_spec_l27Number, m_spec_l00In]
theorem UndoVersion_eq (list : List gVersion) (n : Int) : m_impl_UndoVersion list n = m_spec_UndoVersion list n := by
  simp only [m_impl_UndoVersion, m_spec_UndoVersion, m_impl_versionsCode, hist_eq, number_eq]
  cases h1 : m_spec_l27Ok list with
  | false => simp
  | true =>
    cases h2 : m_spec_l27Number list n with
    | false => simp
    | true =>
      simp only [Bool.not_true, Bool.cond_false, bne_self_eq_false]
      have hn : 1 ≤ n ∧ n ≤ (list.length : Int) := l00In_imp h2
      have hl := ((hist_iff list).1 h1).1
      rw [decimal_eq (n := n) (by omega), add_is]
      rfl
theorem UndoVersion_small (list : List gVersion) (n : Int) : (m_spec_UndoVersion list n).1.length ≤ 1048576 ∧ ∀ e ∈ (m_spec_UndoVersion list n).1, e.State.length ≤ 1048576 := by
  simp only [m_spec_UndoVersion]
  cases h1 : m_spec_l27Ok list with
  | false => simp
  | true =>
    cases h2 : m_spec_l27Number list n with
    | false => simp
    | true =>
      simp only [Bool.not_true, Bool.cond_false]
      have hn : 1 ≤ n ∧ n ≤ (list.length : Int) := l00In_imp h2
      have hv := (hist_iff list).1 h1
      have hp := hv.par (n := n) ⟨by omega, hn.2⟩
      have hl := hv.1
      rw [show IntKind.wrap .i64 (n - 1) = n - 1 from wr64 (by omega)]
      exact add_small hv (vstate24 (list := list) hv ⟨hp.1, by omega⟩)

end Go.Proofs.YtdkkcemlnjlebaaDoor
