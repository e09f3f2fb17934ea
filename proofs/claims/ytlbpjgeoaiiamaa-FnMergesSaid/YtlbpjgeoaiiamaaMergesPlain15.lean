/-
  PLAIN LAWS about the models: no program in sight. Conditions: as each theorem states them.
-/
import Derived.Test.YtlbpjgeoaiiamaaMergesPlain14
set_option linter.unusedVariables false
set_option linter.unusedSimpArgs false
set_option linter.unusedSectionVars false
set_option linter.unnecessarySimpa false
namespace Go.Proofs.Ytlbpjgeoaiiamaa
open Go Go.RowKit Go.Proofs Go.Proofs.Ytlbpjgeoaiiamaa.E
/-! ## FnMerges: merges of drawn states -/
theorem merge_left {base a : List gSetting} (hb : DS base) (ha : DS a) : m_impl_MergeStates base a base = (a, 0) := by
  have l1 := hb.len; have l2 := ha.len
  rw [merge_is hb.validI ha.validI hb.validI, conf_none (by omega) (by omega) (by omega) (fun n => by rw [conf1_is, sameT_iff.2 (rfl : m_impl_thingAt base n = m_impl_thingAt base n)]; simp), mrg_is ha.1 (fun n => by
    unfold pick3
    cases e : sameT (m_impl_thingAt a n) (m_impl_thingAt base n) with
    | true => exact (sameT_iff.1 e).symm
    | false => rfl)]
  have : ¬ 24 < (a.length : Int) := by omega
  simp [this]
theorem merge_right {base a : List gSetting} (hb : DS base) (ha : DS a) : m_impl_MergeStates base base a = (a, 0) := by
  have l1 := hb.len; have l2 := ha.len
  rw [merge_is hb.validI hb.validI ha.validI, conf_none (by omega) (by omega) (by omega) (fun n => by rw [conf1_is, sameT_iff.2 (rfl : m_impl_thingAt base n = m_impl_thingAt base n)]; simp), mrg_is ha.1 (fun n => by
    unfold pick3
    rw [sameT_iff.2 (rfl : m_impl_thingAt base n = m_impl_thingAt base n)]; rfl)]
  have : ¬ 24 < (a.length : Int) := by omega
  simp [this]
theorem merge_both {base a : List gSetting} (hb : DS base) (ha : DS a) : m_impl_MergeStates base a a = (a, 0) := by
  have l1 := hb.len; have l2 := ha.len
  rw [merge_is hb.validI ha.validI ha.validI, conf_none (by omega) (by omega) (by omega) (fun n => by rw [conf1_is, sameT_iff.2 (rfl : m_impl_thingAt a n = m_impl_thingAt a n)]; simp), mrg_is ha.1 (fun n => by
    unfold pick3
    cases sameT (m_impl_thingAt a n) (m_impl_thingAt base n) <;> rfl)]
  have : ¬ 24 < (a.length : Int) := by omega
  simp [this]
theorem confs_is {base a b : List gSetting} (hb : DS base) (ha : DS a) (hc : DS b) : m_impl_ConflictsOf base a b = (m_impl_conflictsOf base a b, 0) := by
  simp only [m_impl_ConflictsOf, hb.validI, ha.validI, hc.validI, Bool.not_true, Bool.or_self, Bool.cond_false]
/-- what a merge of valid states comes to -/
theorem merge_ok {base a b : List gSetting} (h1 : m_spec_l27State base = true) (h2 : m_spec_l27State a = true) (h3 : m_spec_l27State b = true) (h : (m_impl_MergeStates base a b).2 = 0) : (m_impl_MergeStates base a b).1 = mrg base a b ∧ m_spec_l27State (mrg base a b) = true := by
  rw [merge_is (by rw [state_eq]; exact h1) (by rw [state_eq]; exact h2) (by rw [state_eq]; exact h3)] at h ⊢
  by_cases hc : 0 < ((m_impl_conflictsOf base a b).length : Int)
  · simp only [hc, decide_true, Bool.cond_true] at h; exact absurd h (by decide)
  · simp only [hc, decide_false, Bool.cond_false] at h ⊢
    by_cases hl : 24 < ((mrg base a b).length : Int)
    · simp only [hl, decide_true, Bool.cond_true] at h; exact absurd h (by decide)
    · simp only [hl, decide_false, Bool.cond_false]
      refine ⟨trivial, (state_iff _).2 ⟨fun e he => ?_, mrg_rise base a b, by omega⟩⟩
      rcases mrg_or he with he | he
      · exact ((state_iff _).1 h2).1 e he
      · exact ((state_iff _).1 h3).1 e he
theorem merge_swap {base a b : List gSetting} (hb : DS base) (ha : DS a) (hc : DS b) : m_impl_MergeStates base a b = m_impl_MergeStates base b a ∧ ((m_impl_MergeStates base a b).2 == 6) = decide (0 < ((m_impl_conflictsOf base a b).length : Int)) := by
  have l1 := hb.len; have l2 := ha.len; have l3 := hc.len
  rw [merge_is hb.validI ha.validI hc.validI, merge_is hb.validI hc.validI ha.validI]
  have hs := conf_swap (base := base) (a := a) (b := b) (by omega) (by omega) (by omega)
  rw [← hs]
  by_cases hq : 0 < ((m_impl_conflictsOf base a b).length : Int)
  · simp only [hq, decide_true, Bool.cond_true]; exact ⟨trivial, rfl⟩
  · have hn : m_impl_conflictsOf base a b = [] := List.eq_nil_of_length_eq_zero (by omega)
    rw [mrg_swap (by omega) (by omega) (by omega) hn]
    simp only [hq, decide_false, Bool.cond_false]
    refine ⟨trivial, ?_⟩
    cases decide (24 < ((mrg base b a).length : Int)) <;> rfl

end Go.Proofs.Ytlbpjgeoaiiamaa
