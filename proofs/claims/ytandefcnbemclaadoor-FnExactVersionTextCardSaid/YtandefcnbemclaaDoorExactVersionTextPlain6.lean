/-
  PLAIN LAWS about the models: no program in sight. Conditions: as each theorem states them.
-/
import Derived.Test.YtandefcnbemclaaDoorExactVersionTextPlain5
set_option linter.unusedVariables false
set_option linter.unusedSimpArgs false
set_option linter.unusedSectionVars false
set_option linter.unnecessarySimpa false
namespace Go.Proofs.YtandefcnbemclaaDoor
open Go Go.RowKit Go.Proofs Go.Proofs.YtandefcnbemclaaDoor.E
theorem decimal_len {n : Int} (hn : -9223372036854775808 ≤ n ∧ n ≤ 9223372036854775807) : (m_impl_Decimal n).length ≤ 20 := itoa_len hn
theorem decimal_eq {n : Int} (hn : -9223372036854775808 ≤ n ∧ n ≤ 9223372036854775807) : m_impl_Decimal n = m_spec_l01Dec n := (dec_eq n hn).symm
theorem VersionText_eq (v : gVersion) : m_impl_VersionText v = m_spec_VersionText v := by
  simp only [m_impl_VersionText, m_spec_VersionText, memo_eq, state_eq, within_eq]
  cases h : ((((!(m_spec_l00In v.Number 1 32)) || (!(m_spec_l00In v.Parent 0 (IntKind.wrap .i64 (v.Number - 1))))) || (!(m_spec_l27Memo v.Memo))) || (!(m_spec_l27State v.State))) with
  | true => rfl
  | false =>
    simp only [Bool.cond_false]
    simp only [Bool.or_eq_false_iff, Bool.not_eq_false'] at h
    have h1 := l00In_imp h.1.1.1; have h2 := l00In_imp h.1.1.2; have hw := wr64_le (n := v.Number - 1); have hS := state_in h.2
    rw [decimal_eq (n := v.Number) (by omega), decimal_eq (n := v.Parent) (by omega)]
    refine LOOP_sim (fun x y => x = y ∧ 0 ≤ x.2) (fun x => ((v.State.length : Int) - x.2).toNat) (fun x => ((v.State.length : Int) - x.2).toNat) (fun rec₁ rec₂ x₁ x₂ hR ih => ?_) _ _ _ _ ⟨rfl, by simp⟩ (by simp) (by simp)
    obtain ⟨rfl, h0⟩ := hR
    simp only [m_impl_VersionText_b1, m_spec_VersionText_b1]
    by_cases hi : x₁.2 < (v.State.length : Int)
    · simp only [hi, decide_true, Bool.cond_true]
      have hq := at_all (i := x₁.2) hS.2 ⟨h0, hi⟩
      rw [decimal_eq (n := (at' v.State x₁.2).Value) (by omega)]
      exact ih _ _ ⟨rfl, by simp only; omega⟩ (by simp only; omega) (by simp only; omega)
    · simp only [hi, decide_false, Bool.cond_false]

end Go.Proofs.YtandefcnbemclaaDoor
