/-
  PLAIN LAWS about the models: no program in sight. Conditions: as each theorem states them.
-/
import Derived.Test.YtdhehmaglhobjaaExactMergeStatesPlain15
set_option linter.unusedVariables false
set_option linter.unusedSimpArgs false
set_option linter.unusedSectionVars false
set_option linter.unnecessarySimpa false
namespace Go.Proofs.Ytdhehmaglhobjaa
open Go Go.RowKit Go.Proofs Go.Proofs.Ytdhehmaglhobjaa.E
theorem merge_len (base a b : List gSetting) : (m_spec_MergeStates base a b).1.length ≤ 1000 := by
  simp only [m_spec_MergeStates]
  cases h1 : ((!(m_spec_l27State base)) || (!(m_spec_l27State a))) || (!(m_spec_l27State b)) with
  | true => simp
  | false =>
    simp only [Bool.cond_false, m_spec_l27Merge]
    cases decide (0 < ((m_spec_l27Conflicts base a b).length : Int)) with
    | true => simp
    | false =>
      simp only [Bool.cond_false]
      refine LOOP_post (fun (_ : List gSetting × Int) => True) (fun x => (((m_spec_l27Names base a b).length : Int) - x.2).toNat) (fun _ (r : List gSetting × Int) => r.1.length ≤ 1000) (fun rec x _ ih => ?_) _ _ trivial (by simp)
      simp only [m_spec_l27Merge_b1, JN]
      by_cases hi : x.2 < ((m_spec_l27Names base a b).length : Int)
      · simp only [hi, decide_true, Bool.cond_true]
        generalize ((strB .eql (m_spec_l27Get a (at' (m_spec_l27Names base a b) x.2)).Name (m_spec_l27Get base (at' (m_spec_l27Names base a b) x.2)).Name) && (((m_spec_l27Get a (at' (m_spec_l27Names base a b) x.2)).Value == (m_spec_l27Get base (at' (m_spec_l27Names base a b) x.2)).Value) && true)) = c
        cases c with
        | true =>
          simp only [Bool.cond_true]
          cases strB .neq (m_spec_l27Get b (at' (m_spec_l27Names base a b) x.2)).Name ([] : List UInt8) with
          | true => exact ih _ trivial (by simp only; omega)
          | false => exact ih _ trivial (by simp only; omega)
        | false =>
          simp only [Bool.cond_false]
          cases strB .neq (m_spec_l27Get a (at' (m_spec_l27Names base a b) x.2)).Name ([] : List UInt8) with
          | true => exact ih _ trivial (by simp only; omega)
          | false => exact ih _ trivial (by simp only; omega)
      · simp only [hi, decide_false, Bool.cond_false]
        by_cases hl : 24 < (x.1.length : Int)
        · simp [hl]
        · simp only [hl, decide_false, Bool.cond_false]; omega
theorem law_FnExactMergeStates (aBase : List gSetting) (aA : List gSetting) (aB : List gSetting) (hp1 : aBase.length ≤ 9223372036854775807 ∧ ∀ y ∈ aBase, gSetting.ok y) (hp2 : aA.length ≤ 9223372036854775807 ∧ ∀ y ∈ aA, gSetting.ok y) (hp3 : aB.length ≤ 9223372036854775807 ∧ ∀ y ∈ aB, gSetting.ok y) : m_laws_FnExactMergeStates aBase aA aB = true := by
  simp only [m_laws_FnExactMergeStates, toSetting_eq, toSettingS_eq, eqSetting_refl, eqSettingS_refl, MergeStates_eq, bne_self_eq_false, strB_neq_self, Bool.or_self, Bool.or_false, Bool.false_or, Bool.not_true, Bool.cond_false]
  by_cases h1 : m_laws_szSettingS aBase 1048576 < 0
  · simp [h1]
  have a1 := szSettingS_impA (a := aBase) (l := 1048576) hp1 (by omega) (by omega) (by omega)
  have b1 := szSettingS_impB (a := aBase) (l := 1048576) hp1 (by omega) (by omega) (by omega)
  by_cases h2 : m_laws_szSettingS aA (m_laws_szSettingS aBase 1048576) < 0
  · simp [h2]
  have a2 := szSettingS_impA (a := aA) (l := (m_laws_szSettingS aBase 1048576)) hp2 (by omega) (by omega) (by omega)
  have b2 := szSettingS_impB (a := aA) (l := (m_laws_szSettingS aBase 1048576)) hp2 (by omega) (by omega) (by omega)
  by_cases h3 : m_laws_szSettingS aB (m_laws_szSettingS aA (m_laws_szSettingS aBase 1048576)) < 0
  · simp [h3]
  have a3 := szSettingS_impA (a := aB) (l := (m_laws_szSettingS aA (m_laws_szSettingS aBase 1048576))) hp3 (by omega) (by omega) (by omega)
  have b3 := szSettingS_impB (a := aB) (l := (m_laws_szSettingS aA (m_laws_szSettingS aBase 1048576))) hp3 (by omega) (by omega) (by omega)
  have k0 := markSettingS_rng (a := aBase) (k := 1) (by omega) (by omega)
  have k1 := markSettingS_rng (a := aA) (k := (m_laws_markSettingS aBase 1).1) (by omega) (by omega)
  have k2 := markSettingS_rng (a := aB) (k := (m_laws_markSettingS aA (m_laws_markSettingS aBase 1).1).1) (by omega) (by omega)
  have kk : ¬ (m_laws_markSettingS aB (m_laws_markSettingS aA (m_laws_markSettingS aBase 1).1).1).1 < 0 := by omega
  have hh := held_mark_set (a := (m_spec_MergeStates aBase aA aB).1) (by have := merge_len aBase aA aB; omega)
  simp [h1, h2, h3, kk, hh.1, hh.2]

end Go.Proofs.Ytdhehmaglhobjaa
