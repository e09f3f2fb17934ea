/-
  PLAIN LAWS about the models: no program in sight. Conditions: as each theorem states them.
-/
import Derived.Test.YtbflomopgofkgaaExactApplyChangesPlain10
set_option linter.unusedVariables false
set_option linter.unusedSimpArgs false
set_option linter.unusedSectionVars false
set_option linter.unnecessarySimpa false
namespace Go.Proofs.Ytbflomopgofkgaa
open Go Go.RowKit Go.Proofs Go.Proofs.Ytbflomopgofkgaa.E
theorem held_mark_set {a : List gSetting} (h : a.length ≤ 1048576) : m_laws_heldSettingS (m_laws_markSettingS a 1).2 1 = (m_laws_markSettingS a 1).1 ∧ ¬ (m_laws_markSettingS a 1).1 < 0 := by
  have e : m_laws_markSettingS a 1 = (1 + 2 * (a.length : Int), (irange 0 a.length).map (fun j => gSetting.mk (m_laws_markText (1 + 2 * j)) (1 + 2 * j + 1))) :=
    LOOP_markt (f := fun kk => gSetting.mk (m_laws_markText kk) (kk + 1)) (s := 2) (b := m_laws_markSettingS_b1 a 1) (k := fun x => (x.2.1, x.1)) (by omega) 1 (by omega) (fun rec xs kk i h0 h1 h2 h3 => by simp only [m_laws_markSettingS_b1, h1, decide_true, Bool.cond_true]; rw [wr64 (n := kk + 1) (by omega), wr64 (by omega), show kk + 1 + 1 = kk + 2 by omega]) (fun rec xs kk i h1 => by simp only [m_laws_markSettingS_b1, h1, decide_false, Bool.cond_false]) (fun _ => rfl) (((a.length : Int) - 0 : Int).toNat + 1) a 0 (by omega) (by omega) (by omega) (by omega) (fun j h1 h2 => by omega)
  rw [e]
  refine ⟨?_, by simp only []; omega⟩
  generalize hL : (irange 0 a.length).map (fun j => gSetting.mk (m_laws_markText (1 + 2 * j)) (1 + 2 * j + 1)) = L
  have hl : L.length = a.length := by rw [← hL, List.length_map, irange_len]
  have := LOOP_heldt (f := fun kk => gSetting.mk (m_laws_markText kk) (kk + 1)) (s := 2) (L := L) (b := m_laws_heldSettingS_b1 L 1) (k := fun x => x.1) (n := a.length) (by omega) 1 (by omega) (by omega) hL.symm (fun rec kk i h0 h1 h2 h3 h4 => by simp only [m_laws_heldSettingS_b1, hl, h1, decide_true, Bool.cond_true, h4, strB_neq_self, Bool.cond_false]; rw [wr64 (n := kk + 1) (by omega), wr64 (by omega), show kk + 1 + 1 = kk + 2 by omega]; simp) (fun rec kk i h1 => by simp only [m_laws_heldSettingS_b1, hl, h1, decide_false, Bool.cond_false]) (fun _ => rfl) (((a.length : Int) - 0 : Int).toNat + 1) 0 (by omega) (by omega) (by omega)
  simp only [m_laws_heldSettingS, hl]
  exact this
theorem law_FnExactApplyChanges (aList : List gSetting) (aChanges : List gChange) (hp1 : aList.length ≤ 9223372036854775807 ∧ ∀ y ∈ aList, gSetting.ok y) (hp2 : aChanges.length ≤ 9223372036854775807 ∧ ∀ y ∈ aChanges, gChange.ok y) : m_laws_FnExactApplyChanges aList aChanges = true := by
  simp only [m_laws_FnExactApplyChanges, toChangeS_eq, toChange_eq, toSettingS_eq, toSetting_eq, eqChange_refl, eqSettingS_refl, eqSetting_refl, eqChangeS_refl, ApplyChanges_eq, bne_self_eq_false, strB_neq_self, Bool.or_self, Bool.or_false, Bool.false_or, Bool.not_true, Bool.cond_false]
  by_cases h1 : m_laws_szSettingS aList 1048576 < 0
  · simp [h1]
  have a1 := szSettingS_impA (a := aList) (l := 1048576) hp1 (by omega) (by omega) (by omega)
  have b1 := szSettingS_impB (a := aList) (l := 1048576) hp1 (by omega) (by omega) (by omega)
  by_cases h2 : m_laws_szChangeS aChanges (m_laws_szSettingS aList 1048576) < 0
  · simp [h2]
  have a2 := szChangeS_impA (a := aChanges) (l := (m_laws_szSettingS aList 1048576)) hp2 (by omega) (by omega) (by omega)
  have b2 := szChangeS_impB (a := aChanges) (l := (m_laws_szSettingS aList 1048576)) hp2 (by omega) (by omega) (by omega)
  have k0 := markSettingS_rng (a := aList) (k := 1) (by omega) (by omega)
  have k1 := markChangeS_rng (a := aChanges) (k := (m_laws_markSettingS aList 1).1) (by omega) (by omega)
  have kk : ¬ (m_laws_markChangeS aChanges (m_laws_markSettingS aList 1).1).1 < 0 := by omega
  have hh := held_mark_set (a := (m_spec_ApplyChanges aList aChanges).1) (ApplyChanges_len aList aChanges)
  simp [h1, h2, kk, hh.1, hh.2]

end Go.Proofs.Ytbflomopgofkgaa
