/-
  PLAIN LAWS about the models: no program in sight. Conditions: as each theorem states them.
-/
import Derived.Test.YtdhehmaglhobjaaExactMergeStatesModels
set_option linter.unusedVariables false
set_option linter.unusedSimpArgs false
set_option linter.unusedSectionVars false
set_option linter.unnecessarySimpa false
namespace Go.Proofs.Ytdhehmaglhobjaa
open Go Go.RowKit Go.Proofs Go.Proofs.Ytdhehmaglhobjaa.E
/-! ## Sizes, copies, equality: printed by a program of this claim -/
abbrev gSetting.ok (x : gSetting) : Prop := (x.Name.length ≤ 9223372036854775807) ∧ (-9223372036854775808 ≤ x.Value ∧ x.Value ≤ 9223372036854775807)
abbrev gSetting.sz (x : gSetting) : Prop := (x.Name.length ≤ 1048576)
theorem szSetting_le {a : gSetting} {l : Int} (hs : gSetting.ok a) (h0 : 0 ≤ l) (h1 : l ≤ 1048576) : m_laws_szSetting a l ≤ l ∧ (0 ≤ m_laws_szSetting a l → gSetting.sz a) := by
  have hs' := hs
  unfold gSetting.ok at hs'
  simp only [m_laws_szSetting, gSetting.sz]
  rw [wr64 (n := l - (a.Name.length : Int)) (by omega)]
  by_cases h_1 : (l - (a.Name.length : Int)) < 0
  · simp only [h_1, decide_true, Bool.cond_true]; exact ⟨by omega, fun h => absurd h (by omega)⟩
  simp only [h_1, decide_false, Bool.cond_false]
  exact ⟨by omega, fun _ => by omega⟩
theorem szSetting_impA {a : gSetting} {l : Int} (hs : gSetting.ok a) (h0 : 0 ≤ l) (h1 : l ≤ 1048576) (h : 0 ≤ m_laws_szSetting a l) : m_laws_szSetting a l ≤ l := (szSetting_le hs h0 h1).1
theorem szSetting_impB {a : gSetting} {l : Int} (hs : gSetting.ok a) (h0 : 0 ≤ l) (h1 : l ≤ 1048576) (h : 0 ≤ m_laws_szSetting a l) : gSetting.sz a := (szSetting_le hs h0 h1).2 h
theorem szSettingS_le {a : List gSetting} {l : Int} (hs : a.length ≤ 9223372036854775807 ∧ ∀ y ∈ a, gSetting.ok y) (h0 : 0 ≤ l) (h1 : l ≤ 1048576) : m_laws_szSettingS a l ≤ l ∧ (0 ≤ m_laws_szSettingS a l → a.length ≤ 1048576 ∧ ∀ y ∈ a, gSetting.sz y) := by
  simp only [m_laws_szSettingS]
  rw [wr64 (n := l - (a.length : Int)) (by omega)]
  by_cases h : l - (a.length : Int) < 0
  · simp only [h, decide_true, Bool.cond_true]; exact ⟨by omega, fun h => absurd h (by omega)⟩
  simp only [h, decide_false, Bool.cond_false]
  have s := LOOP_szq (b := m_laws_szSettingS_b1 a l) (n := a.length) (f := fun i l => m_laws_szSetting (at' a i) l) (Q := fun i => gSetting.sz (at' a i)) (k := fun x => x.1) (fun rec k x h0 h1 h2 h3 => by simp only [m_laws_szSettingS_b1, h1, decide_true, Bool.cond_true]) (fun rec k x h1 => by simp only [m_laws_szSettingS_b1, h1, decide_false, Bool.cond_false]) (fun i l hi hn h0 h1 => szSetting_le (at_all hs.2 ⟨hi, hn⟩) h0 h1) (fun _ => rfl) (((a.length : Int) - 0 : Int).toNat + 1) (l - a.length) 0 (by omega) (by omega) (by omega) (by omega) (by omega)
  exact ⟨by omega, fun h => ⟨by omega, all_at.2 fun j hj => s.2 h j (by omega) (by omega)⟩⟩
theorem szSettingS_impA {a : List gSetting} {l : Int} (hs : a.length ≤ 9223372036854775807 ∧ ∀ y ∈ a, gSetting.ok y) (h0 : 0 ≤ l) (h1 : l ≤ 1048576) (h : 0 ≤ m_laws_szSettingS a l) : m_laws_szSettingS a l ≤ l := (szSettingS_le hs h0 h1).1
theorem szSettingS_impB {a : List gSetting} {l : Int} (hs : a.length ≤ 9223372036854775807 ∧ ∀ y ∈ a, gSetting.ok y) (h0 : 0 ≤ l) (h1 : l ≤ 1048576) (h : 0 ≤ m_laws_szSettingS a l) : a.length ≤ 1048576 ∧ ∀ y ∈ a, gSetting.sz y := (szSettingS_le hs h0 h1).2 h
theorem toSetting_eq (a : gSetting) : m_laws_toSetting a = a := by simp only [m_laws_toSetting]
theorem toSettingS_eq (a : List gSetting) : m_laws_toSettingS a = a := by
  simp only [m_laws_toSettingS]
  exact LOOP_fill (b := m_laws_toSettingS_b1 a) (fun rec k x => by simp only [m_laws_toSettingS_b1, toSetting_eq]) (fun _ => rfl) _ _ 0 (by simp) (by omega) rfl (by omega)
theorem eqSetting_refl (a : gSetting) : m_laws_eqSetting a a = true := by simp [m_laws_eqSetting, strB]
theorem eqSettingS_refl (a : List gSetting) : m_laws_eqSettingS a a = true := by
  simp only [m_laws_eqSettingS, bne_self_eq_false, Bool.cond_false]
  rw [LOOP_all (b := m_laws_eqSettingS_b1 a a) (n := a.length) (bad := fun _ => false) (fun rec k i _ => by simp [m_laws_eqSettingS_b1, strB, eqSetting_refl]) (k := fun _ => true) _ 0 (by omega) (by omega) (by omega)]
  simp
theorem markSettingS_rng {a : List gSetting} {k : Int} (h0 : 0 ≤ k) (h1 : k + 64 * ((a.length : Int)) ≤ 9223372036854770000) : k ≤ (m_laws_markSettingS a k).1 ∧ (m_laws_markSettingS a k).1 ≤ k + 64 * ((a.length : Int)) := by
  have h := LOOP_markv (b := m_laws_markSettingS_b1 a k) (k := fun x => (x.2.1, x.1)) (fun xs kk i => (m_laws_markSettingS_b1 a k (fun x => (0, x.1)) (fun x => (0, x.1)) (xs, kk, i)).2) (fun kk => IntKind.wrap .i64 ((IntKind.wrap .i64 (kk + 1)) + 1))
    (fun rec xs kk i h0 h1 => by simp only [m_laws_markSettingS_b1, h1, decide_true, Bool.cond_true]) (fun xs kk i => by simp only [m_laws_markSettingS_b1]; cases decide (i < (xs.length : Int)) <;> simp [put_len]) (fun rec xs kk i h1 => by simp only [m_laws_markSettingS_b1, h1, decide_false, Bool.cond_false]) (fun kk h0 h1 => by rw [wr64 (n := kk + 1) (by omega), wr64 (n := kk + 1 + 1) (by omega)]; omega) (fun _ => rfl) (((a.length : Int) - 0 : Int).toNat + 1) a k 0 h0 (by omega) (by omega) (by omega) (by omega)
  simp only [m_laws_markSettingS]
  omega
theorem markSettingS_le {a : List gSetting} {k : Int} (h : k ≤ 9223372036854775807) : (m_laws_markSettingS a k).1 ≤ 9223372036854775807 := by
  have h' := LOOP_post (b := m_laws_markSettingS_b1 a k) (k := fun x => (x.2.1, x.1)) (fun x => x.2.1 ≤ 9223372036854775807 ∧ 0 ≤ x.2.2) (fun x => ((x.1.length : Int) - x.2.2).toNat) (fun _ r => r.1 ≤ 9223372036854775807)
    (fun rec x hx ih => by
      simp only [m_laws_markSettingS_b1]
      by_cases h1 : x.2.2 < (x.1.length : Int)
      · simp only [h1, decide_true, Bool.cond_true]
        refine ih _ ⟨wr64_le, by dsimp only; omega⟩ ?_
        simp only [put_len]; omega
      · simp only [h1, decide_false, Bool.cond_false]; exact hx.1) (((a.length : Int) - 0 : Int).toNat + 1) (a, k, 0) ⟨h, by dsimp only; omega⟩ (by dsimp only; omega)
  simp only [m_laws_markSettingS]; exact h'
theorem markSettingS_len {a : List gSetting} {k : Int} : (m_laws_markSettingS a k).2.length = a.length := by
  have h' := LOOP_post (b := m_laws_markSettingS_b1 a k) (k := fun x => (x.2.1, x.1)) (fun x => x.1.length = a.length ∧ 0 ≤ x.2.2) (fun x => ((x.1.length : Int) - x.2.2).toNat) (fun _ r => r.2.length = a.length)
    (fun rec x hx ih => by
      simp only [m_laws_markSettingS_b1]
      by_cases h1 : x.2.2 < (x.1.length : Int)
      · simp only [h1, decide_true, Bool.cond_true]
        refine ih _ ⟨by simp only [put_len]; exact hx.1, by dsimp only; omega⟩ ?_
        simp only [put_len]; omega
      · simp only [h1, decide_false, Bool.cond_false]; exact hx.1) (((a.length : Int) - 0 : Int).toNat + 1) (a, k, 0) ⟨rfl, by dsimp only; omega⟩ (by dsimp only; omega)
  simp only [m_laws_markSettingS]; exact h'

end Go.Proofs.Ytdhehmaglhobjaa
