/-
  PLAIN LAWS about the models: no program in sight. Conditions: as each theorem states them.
-/
import Derived.Test.YtlbpjgeoaiiamaaMergesPlain19
set_option linter.unusedVariables false
set_option linter.unusedSimpArgs false
set_option linter.unusedSectionVars false
set_option linter.unnecessarySimpa false
namespace Go.Proofs.Ytlbpjgeoaiiamaa
open Go Go.RowKit Go.Proofs Go.Proofs.Ytlbpjgeoaiiamaa.E
/-! ## FnMerges: the law -/
theorem mergeV {list : List gVersion} (h : HV list) (hl : list.length < 32) {a b : Int} (ha : 1 ≤ a ∧ a ≤ list.length) (hb : 1 ≤ b ∧ b ≤ list.length) {memo : List UInt8} (hm : m_spec_l27Memo memo = true) (hz : (m_impl_MergeVersions list a b memo).2 = 0) :
    ∃ v, (m_impl_MergeVersions list a b memo).1 = list ++ ([v] : List gVersion) ∧ HV (list ++ ([v] : List gVersion)) := by
  have hv := vcode_is h ha hb
  have hmI : m_impl_memoValid memo = true := by rw [memo_eq]; exact hm
  have e1 : ((0 : Int) == 1) = false := by decide
  have e0 : ((0 : Int) != 0) = false := by decide
  simp only [m_impl_MergeVersions, hv, hmI, e1, e0, Bool.not_true, Bool.or_self, Bool.cond_false] at hz ⊢
  have hc := com_rng h (a := a) (b := b) ⟨by omega, ha.2⟩ ⟨by omega, hb.2⟩
  have s1 := vstate_ok h (n := m_impl_commonAncestor list a b) ⟨hc.1, by omega⟩
  have s2 := vstate_ok h (n := a) ⟨by omega, ha.2⟩
  have s3 := vstate_ok h (n := b) ⟨by omega, hb.2⟩
  have hmg := merge_ok s1 s2 s3
  generalize m_impl_MergeStates (m_impl_versionState list (m_impl_commonAncestor list a b)) (m_impl_versionState list a) (m_impl_versionState list b) = M at hz hmg ⊢
  cases hq : (M.2 != 0) with
  | true =>
    rw [hq] at hz
    simp only [Bool.cond_true] at hz
    rw [hz] at hq
    exact absurd hq (by decide)
  | false =>
    rw [hq] at hz
    simp only [Bool.cond_false] at hz ⊢
    have hM : M.2 = 0 := by simpa using hq
    obtain ⟨g1, g2⟩ := hmg hM
    rw [with_is hl]
    refine ⟨_, rfl, h.snoc hl ⟨by omega, ha.2⟩ hm ?_⟩
    rw [g1]; exact g2
theorem law_FnMerges (code : List Int) (more : List Int) (hp1 : code.length ≤ 9223372036854775807 ∧ ∀ y ∈ code, 0 ≤ y ∧ y ≤ 255) (hp2 : more.length ≤ 9223372036854775807 ∧ ∀ y ∈ more, 0 ≤ y ∧ y ≤ 255) : m_laws_FnMerges code more = true := by
  have hb : DS (m_spec_R8State code) := (draw_state (Lim.from hp1.2)).1
  have ha : DS (m_spec_R8Changed more (m_spec_R8State code)) := (changed_state (Lim.from hp2.2) hb).1
  have hc : DS (m_spec_R8Changed code (m_spec_R8State code)) := (changed_state (Lim.from hp1.2) hb).1
  have hh : HD (m_spec_R8History more) ∧ (m_spec_R8History more).length ≤ 5 := draw_hist (Lim.from hp2.2)
  simp only [m_laws_FnMerges]
  cases m_laws_r8Long code more with
  | true => rfl
  | false =>
    simp only [Bool.cond_false]
    generalize m_spec_R8State code = base at ha hb hc ⊢
    generalize m_spec_R8Changed more base = a at ha ⊢
    generalize m_spec_R8Changed code base = b at hc ⊢
    rw [merge_left hb ha, merge_right hb ha, merge_both hb ha]
    simp only [m_spec_SameState, same_refl, bne_self_eq_false, Bool.not_true, Bool.or_self, Bool.cond_false]
    have l1 := hb.len; have l2 := ha.len; have l3 := hc.len
    have hsw := merge_swap hb ha hc
    rw [confs_is hb ha hc, confs_is hb hc ha, ← hsw.1]
    have hcs := conf_swap (base := base) (a := a) (b := b) (by omega) (by omega) (by omega)
    rw [← hcs]
    simp only [same_refl, bne_self_eq_false, Bool.not_true, Bool.or_self, Bool.false_or, hsw.2]
    have hval : ((m_impl_MergeStates base a b).2 == 0 && !(m_spec_ValidState (m_impl_MergeStates base a b).1)) = false := by
      cases e : ((m_impl_MergeStates base a b).2 == 0) with
      | false => rfl
      | true =>
        have := merge_ok hb.valid ha.valid hc.valid (by simpa using e)
        simp only [m_spec_ValidState, this.1, this.2, Bool.not_true, Bool.and_false]
    rw [hval]
    simp only [Bool.cond_false]
    generalize m_spec_R8History more = list at hh ⊢
    obtain ⟨⟨hv, hds⟩, hl5⟩ := hh
    cases hn : ((list.length : Int) == 0) with
    | true => rfl
    | false =>
      have hn' : (list.length : Int) ≠ 0 := by simpa using hn
      simp only [Bool.cond_false]
      have r1 := r8At_rng hp2.2 (k := 0) (n := (list.length : Int)) (by omega)
      have r2 := r8At_rng hp2.2 (k := 1) (n := (list.length : Int)) (by omega)
      rw [wr64 (n := 1 + m_laws_r8At more 0 (list.length : Int)) (by omega), wr64 (n := 1 + m_laws_r8At more 1 (list.length : Int)) (by omega)]
      generalize m_laws_r8At more 0 (list.length : Int) = p at r1 ⊢
      generalize m_laws_r8At more 1 (list.length : Int) = q at r2 ⊢
      have v1 := vcode_is hv (a := 1 + p) (b := 1 + q) (by omega) (by omega)
      have v2 := vcode_is hv (a := 1 + q) (b := 1 + p) (by omega) (by omega)
      have e0 : ((0 : Int) != 0) = false := by decide
      have c1 : m_impl_CommonAncestor list (1 + p) (1 + q) = (m_impl_commonAncestor list (1 + p) (1 + q), 0) := by simp only [m_impl_CommonAncestor, v1, e0, Bool.cond_false]
      have c2 : m_impl_CommonAncestor list (1 + q) (1 + p) = (m_impl_commonAncestor list (1 + p) (1 + q), 0) := by
        simp only [m_impl_CommonAncestor, v2, e0, Bool.cond_false]
        rw [com_swap hv (by omega) (by omega)]
      have hr := com_rng hv (a := 1 + p) (b := 1 + q) (by omega) (by omega)
      rw [c1, c2]
      have d1 : decide (m_impl_commonAncestor list (1 + p) (1 + q) < 0) = false := decide_eq_false (by omega)
      have d2 : decide ((if (1 + q) < (1 + p) then (1 + q) else (1 + p)) < m_impl_commonAncestor list (1 + p) (1 + q)) = false := decide_eq_false (by split <;> omega)
      simp only [bne_self_eq_false, Bool.or_self, d1, d2, Bool.cond_false]
      cases hz : ((m_impl_MergeVersions list (1 + p) (1 + q) ([98, 111, 116, 104] : List UInt8)).2 != 0) with
      | true => rfl
      | false =>
        obtain ⟨v, g1, g2⟩ := mergeV hv (by omega) (a := 1 + p) (b := 1 + q) (by omega) (by omega) (memo := [98, 111, 116, 104]) rfl (by simpa using hz)
        rw [g1, wr64 (by omega)]
        have hok : m_spec_ValidHistory (list ++ ([v] : List gVersion)) = true := (hist_iff _).2 g2
        rw [hok]
        simp

end Go.Proofs.Ytlbpjgeoaiiamaa
