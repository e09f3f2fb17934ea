/-
  PLAIN LAWS about the models: no program in sight. Conditions: as each theorem states them.
-/
import Derived.Test.YtbflomopgofkgaaExactApplyChangesModels
set_option linter.unusedVariables false
set_option linter.unusedSimpArgs false
set_option linter.unusedSectionVars false
set_option linter.unnecessarySimpa false
namespace Go.Proofs.Ytbflomopgofkgaa
open Go Go.RowKit Go.Proofs Go.Proofs.Ytbflomopgofkgaa.E
/-! ## Sizes, copies, equality: printed by a program of this claim -/
abbrev gSetting.ok (x : gSetting) : Prop := (x.Name.length ≤ 9223372036854775807) ∧ (-9223372036854775808 ≤ x.Value ∧ x.Value ≤ 9223372036854775807)
abbrev gChange.ok (x : gChange) : Prop := (-9223372036854775808 ≤ x.Kind ∧ x.Kind ≤ 9223372036854775807) ∧ (gSetting.ok x.Setting)
abbrev gSetting.sz (x : gSetting) : Prop := (x.Name.length ≤ 1048576)
theorem szSetting_le {a : gSetting} {l : Int} (hs : gSetting.ok a) (h0 : 0 ≤ l) (h1 : l ≤ 1048576) : m_laws_szSetting a l ≤ l ∧ (0 ≤ m_laws_szSetting a l → gSetting.sz a) := by
  have hs' := hs
  unfold gSetting.ok at hs'
  simp only [m_laws_szSetting, gSetting.sz]
  rw [wr64 (n := l - (a.Name.length : Int)) (by omega)]
  by_cases h_1 : (l - (a.Name.length : Int)) < 0
  · simp only [h_1, decide_true, Bool.cond_true]; exact ⟨by omega, fun h => absurd h (by omega)⟩
  simp only [h_1, decide_false, Bool.cond_false]
  exact ⟨by omega, fun _ => by omega⟩
theorem szSetting_impA {a : gSetting} {l : Int} (hs : gSetting.ok a) (h0 : 0 ≤ l) (h1 : l ≤ 1048576) (h : 0 ≤ m_laws_szSetting a l) : m_laws_szSetting a l ≤ l := (szSetting_le hs h0 h1).1
theorem szSetting_impB {a : gSetting} {l : Int} (hs : gSetting.ok a) (h0 : 0 ≤ l) (h1 : l ≤ 1048576) (h : 0 ≤ m_laws_szSetting a l) : gSetting.sz a := (szSetting_le hs h0 h1).2 h
theorem szSettingS_le {a : List gSetting} {l : Int} (hs : a.length ≤ 9223372036854775807 ∧ ∀ y ∈ a, gSetting.ok y) (h0 : 0 ≤ l) (h1 : l ≤ 1048576) : m_laws_szSettingS a l ≤ l ∧ (0 ≤ m_laws_szSettingS a l → a.length ≤ 1048576 ∧ ∀ y ∈ a, gSetting.sz y) := by
  simp only [m_laws_szSettingS]
  rw [wr64 (n := l - (a.length : Int)) (by omega)]
  by_cases h : l - (a.length : Int) < 0
  · simp only [h, decide_true, Bool.cond_true]; exact ⟨by omega, fun h => absurd h (by omega)⟩
  simp only [h, decide_false, Bool.cond_false]
  have s := LOOP_szq (b := m_laws_szSettingS_b1 a l) (n := a.length) (f := fun i l => m_laws_szSetting (at' a i) l) (Q := fun i => gSetting.sz (at' a i)) (k := fun x => x.1) (fun rec k x h0 h1 h2 h3 => by simp only [m_laws_szSettingS_b1, h1, decide_true, Bool.cond_true]) (fun rec k x h1 => by simp only [m_laws_szSettingS_b1, h1, decide_false, Bool.cond_false]) (fun i l hi hn h0 h1 => szSetting_le (at_all hs.2 ⟨hi, hn⟩) h0 h1) (fun _ => rfl) (((a.length : Int) - 0 : Int).toNat + 1) (l - a.length) 0 (by omega) (by omega) (by omega) (by omega) (by omega)
  exact ⟨by omega, fun h => ⟨by omega, all_at.2 fun j hj => s.2 h j (by omega) (by omega)⟩⟩
theorem szSettingS_impA {a : List gSetting} {l : Int} (hs : a.length ≤ 9223372036854775807 ∧ ∀ y ∈ a, gSetting.ok y) (h0 : 0 ≤ l) (h1 : l ≤ 1048576) (h : 0 ≤ m_laws_szSettingS a l) : m_laws_szSettingS a l ≤ l := (szSettingS_le hs h0 h1).1
theorem szSettingS_impB {a : List gSetting} {l : Int} (hs : a.length ≤ 9223372036854775807 ∧ ∀ y ∈ a, gSetting.ok y) (h0 : 0 ≤ l) (h1 : l ≤ 1048576) (h : 0 ≤ m_laws_szSettingS a l) : a.length ≤ 1048576 ∧ ∀ y ∈ a, gSetting.sz y := (szSettingS_le hs h0 h1).2 h
abbrev gChange.sz (x : gChange) : Prop := (gSetting.sz x.Setting)
theorem szChange_le {a : gChange} {l : Int} (hs : gChange.ok a) (h0 : 0 ≤ l) (h1 : l ≤ 1048576) : m_laws_szChange a l ≤ l ∧ (0 ≤ m_laws_szChange a l → gChange.sz a) := by
  have hs' := hs
  unfold gChange.ok at hs'
  simp only [m_laws_szChange, gChange.sz]
  have s1 := szSetting_le (a := a.Setting) (l := l) hs'.2 (by omega) (by omega)
  by_cases h_1 : (m_laws_szSetting a.Setting l) < 0
  · simp only [h_1, decide_true, Bool.cond_true]; exact ⟨by omega, fun h => absurd h (by omega)⟩
  simp only [h_1, decide_false, Bool.cond_false]
  exact ⟨by omega, fun _ => s1.2 (by omega)⟩
theorem szChange_impA {a : gChange} {l : Int} (hs : gChange.ok a) (h0 : 0 ≤ l) (h1 : l ≤ 1048576) (h : 0 ≤ m_laws_szChange a l) : m_laws_szChange a l ≤ l := (szChange_le hs h0 h1).1
theorem szChange_impB {a : gChange} {l : Int} (hs : gChange.ok a) (h0 : 0 ≤ l) (h1 : l ≤ 1048576) (h : 0 ≤ m_laws_szChange a l) : gChange.sz a := (szChange_le hs h0 h1).2 h
theorem szChangeS_le {a : List gChange} {l : Int} (hs : a.length ≤ 9223372036854775807 ∧ ∀ y ∈ a, gChange.ok y) (h0 : 0 ≤ l) (h1 : l ≤ 1048576) : m_laws_szChangeS a l ≤ l ∧ (0 ≤ m_laws_szChangeS a l → a.length ≤ 1048576 ∧ ∀ y ∈ a, gChange.sz y) := by
  simp only [m_laws_szChangeS]
  rw [wr64 (n := l - (a.length : Int)) (by omega)]
  by_cases h : l - (a.length : Int) < 0
  · simp only [h, decide_true, Bool.cond_true]; exact ⟨by omega, fun h => absurd h (by omega)⟩
  simp only [h, decide_false, Bool.cond_false]
  have s := LOOP_szq (b := m_laws_szChangeS_b1 a l) (n := a.length) (f := fun i l => m_laws_szChange (at' a i) l) (Q := fun i => gChange.sz (at' a i)) (k := fun x => x.1) (fun rec k x h0 h1 h2 h3 => by simp only [m_laws_szChangeS_b1, h1, decide_true, Bool.cond_true]) (fun rec k x h1 => by simp only [m_laws_szChangeS_b1, h1, decide_false, Bool.cond_false]) (fun i l hi hn h0 h1 => szChange_le (at_all hs.2 ⟨hi, hn⟩) h0 h1) (fun _ => rfl) (((a.length : Int) - 0 : Int).toNat + 1) (l - a.length) 0 (by omega) (by omega) (by omega) (by omega) (by omega)
  exact ⟨by omega, fun h => ⟨by omega, all_at.2 fun j hj => s.2 h j (by omega) (by omega)⟩⟩
theorem szChangeS_impA {a : List gChange} {l : Int} (hs : a.length ≤ 9223372036854775807 ∧ ∀ y ∈ a, gChange.ok y) (h0 : 0 ≤ l) (h1 : l ≤ 1048576) (h : 0 ≤ m_laws_szChangeS a l) : m_laws_szChangeS a l ≤ l := (szChangeS_le hs h0 h1).1
theorem szChangeS_impB {a : List gChange} {l : Int} (hs : a.length ≤ 9223372036854775807 ∧ ∀ y ∈ a, gChange.ok y) (h0 : 0 ≤ l) (h1 : l ≤ 1048576) (h : 0 ≤ m_laws_szChangeS a l) : a.length ≤ 1048576 ∧ ∀ y ∈ a, gChange.sz y := (szChangeS_le hs h0 h1).2 h
theorem cf_impl_Change {s : List gChange} {f : gChange → Bool} : m_slices_ContainsFunc_impl_Change s f = true ↔ ∃ y ∈ s, f y = true := by
  have hd : m_slices_ContainsFunc_impl_Change s f = true ↔ 0 ≤ LOOP (m_slices_IndexFunc_impl_Change_b1 s f) (fun _ => (-1)) (((s.length : Int) - 0 : Int).toNat + 1) 0 := decide_eq_true_iff
  rw [hd]
  rcases LOOP_find (b := m_slices_IndexFunc_impl_Change_b1 s f) (k := fun _ => (-1)) (n := (s.length : Int)) (fun i => f (at' s i)) (fun i => i) (fun rec i h0 h1 => by simp only [m_slices_IndexFunc_impl_Change_b1, h1, decide_true, Bool.cond_true]) (fun rec => by simp [m_slices_IndexFunc_impl_Change_b1]) (((s.length : Int) - 0 : Int).toNat + 1) 0 (by omega) (by omega) (by omega) with ⟨j, h1, h2, h3, h4, h5⟩ | ⟨h1, h2⟩
  · rw [h5]; exact ⟨fun _ => ⟨_, at_mem ⟨h1, h2⟩, h3⟩, fun _ => h1⟩
  · rw [h2]
    constructor
    · intro h; omega
    · rintro ⟨y, hy, h⟩
      obtain ⟨j, hj, e⟩ := List.mem_iff_getElem.1 hy
      have := h1 j (by omega) (by omega)
      rw [at_lt hj, e, h] at this; simp at this
/-- the first place with a property, or -1 -/
theorem if_impl_Change {s : List gChange} {f : gChange → Bool} : (∃ j : Int, 0 ≤ j ∧ j < s.length ∧ f (at' s j) = true ∧ (∀ q : Int, 0 ≤ q → q < j → f (at' s q) = false) ∧ m_slices_IndexFunc_impl_Change s f = j) ∨ ((∀ q : Int, 0 ≤ q → q < s.length → f (at' s q) = false) ∧ m_slices_IndexFunc_impl_Change s f = -1) := by
  rcases LOOP_find (b := m_slices_IndexFunc_impl_Change_b1 s f) (k := fun _ => (-1)) (n := (s.length : Int)) (fun i => f (at' s i)) (fun i => i) (fun rec i h0 h1 => by simp only [m_slices_IndexFunc_impl_Change_b1, h1, decide_true, Bool.cond_true]) (fun rec => by simp [m_slices_IndexFunc_impl_Change_b1]) (((s.length : Int) - 0 : Int).toNat + 1) 0 (by omega) (by omega) (by omega) with ⟨j, h1, h2, h3, h4, h5⟩ | ⟨h1, h2⟩
  · exact .inl ⟨j, h1, h2, h3, h4, h5⟩
  · exact .inr ⟨h1, h2⟩
theorem toSetting_eq (a : gSetting) : m_laws_toSetting a = a := by simp only [m_laws_toSetting]
theorem toSettingS_eq (a : List gSetting) : m_laws_toSettingS a = a := by
  simp only [m_laws_toSettingS]
  exact LOOP_fill (b := m_laws_toSettingS_b1 a) (fun rec k x => by simp only [m_laws_toSettingS_b1, toSetting_eq]) (fun _ => rfl) _ _ 0 (by simp) (by omega) rfl (by omega)
theorem toChange_eq (a : gChange) : m_laws_toChange a = a := by simp only [m_laws_toChange, toSetting_eq, toSettingS_eq]
theorem toChangeS_eq (a : List gChange) : m_laws_toChangeS a = a := by
  simp only [m_laws_toChangeS]
  exact LOOP_fill (b := m_laws_toChangeS_b1 a) (fun rec k x => by simp only [m_laws_toChangeS_b1, toSetting_eq, toSettingS_eq, toChange_eq]) (fun _ => rfl) _ _ 0 (by simp) (by omega) rfl (by omega)
theorem eqSetting_refl (a : gSetting) : m_laws_eqSetting a a = true := by simp [m_laws_eqSetting, strB]
theorem eqSettingS_refl (a : List gSetting) : m_laws_eqSettingS a a = true := by
  simp only [m_laws_eqSettingS, bne_self_eq_false, Bool.cond_false]
  rw [LOOP_all (b := m_laws_eqSettingS_b1 a a) (n := a.length) (bad := fun _ => false) (fun rec k i _ => by simp [m_laws_eqSettingS_b1, strB, eqSetting_refl]) (k := fun _ => true) _ 0 (by omega) (by omega) (by omega)]
  simp
theorem eqChange_refl (a : gChange) : m_laws_eqChange a a = true := by simp [m_laws_eqChange, strB, eqSetting_refl, eqSettingS_refl]
theorem eqChangeS_refl (a : List gChange) : m_laws_eqChangeS a a = true := by
  simp only [m_laws_eqChangeS, bne_self_eq_false, Bool.cond_false]
  rw [LOOP_all (b := m_laws_eqChangeS_b1 a a) (n := a.length) (bad := fun _ => false) (fun rec k i _ => by simp [m_laws_eqChangeS_b1, strB, eqSetting_refl, eqSettingS_refl, eqChange_refl]) (k := fun _ => true) _ 0 (by omega) (by omega) (by omega)]
  simp
theorem markSettingS_rng {a : List gSetting} {k : Int} (h0 : 0 ≤ k) (h1 : k + 64 * ((a.length : Int)) ≤ 9223372036854770000) : k ≤ (m_laws_markSettingS a k).1 ∧ (m_laws_markSettingS a k).1 ≤ k + 64 * ((a.length : Int)) := by
  have h := LOOP_markv (b := m_laws_markSettingS_b1 a k) (k := fun x => (x.2.1, x.1)) (fun xs kk i => (m_laws_markSettingS_b1 a k (fun x => (0, x.1)) (fun x => (0, x.1)) (xs, kk, i)).2) (fun kk => IntKind.wrap .i64 ((IntKind.wrap .i64 (kk + 1)) + 1))
    (fun rec xs kk i h0 h1 => by simp only [m_laws_markSettingS_b1, h1, decide_true, Bool.cond_true]) (fun xs kk i => by simp only [m_laws_markSettingS_b1]; cases decide (i < (xs.length : Int)) <;> simp [put_len]) (fun rec xs kk i h1 => by simp only [m_laws_markSettingS_b1, h1, decide_false, Bool.cond_false]) (fun kk h0 h1 => by rw [wr64 (n := kk + 1) (by omega), wr64 (n := kk + 1 + 1) (by omega)]; omega) (fun _ => rfl) (((a.length : Int) - 0 : Int).toNat + 1) a k 0 h0 (by omega) (by omega) (by omega) (by omega)
  simp only [m_laws_markSettingS]
  omega
theorem markSettingS_le {a : List gSetting} {k : Int} (h : k ≤ 9223372036854775807) : (m_laws_markSettingS a k).1 ≤ 9223372036854775807 := by
  have h' := LOOP_post (b := m_laws_markSettingS_b1 a k) (k := fun x => (x.2.1, x.1)) (fun x => x.2.1 ≤ 9223372036854775807 ∧ 0 ≤ x.2.2) (fun x => ((x.1.length : Int) - x.2.2).toNat) (fun _ r => r.1 ≤ 9223372036854775807)
    (fun rec x hx ih => by
      simp only [m_laws_markSettingS_b1]
      by_cases h1 : x.2.2 < (x.1.length : Int)
      · simp only [h1, decide_true, Bool.cond_true]
        refine ih _ ⟨wr64_le, by dsimp only; omega⟩ ?_
        simp only [put_len]; omega
      · simp only [h1, decide_false, Bool.cond_false]; exact hx.1) (((a.length : Int) - 0 : Int).toNat + 1) (a, k, 0) ⟨h, by dsimp only; omega⟩ (by dsimp only; omega)
  simp only [m_laws_markSettingS]; exact h'
theorem markSettingS_len {a : List gSetting} {k : Int} : (m_laws_markSettingS a k).2.length = a.length := by
  have h' := LOOP_post (b := m_laws_markSettingS_b1 a k) (k := fun x => (x.2.1, x.1)) (fun x => x.1.length = a.length ∧ 0 ≤ x.2.2) (fun x => ((x.1.length : Int) - x.2.2).toNat) (fun _ r => r.2.length = a.length)
    (fun rec x hx ih => by
      simp only [m_laws_markSettingS_b1]
      by_cases h1 : x.2.2 < (x.1.length : Int)
      · simp only [h1, decide_true, Bool.cond_true]
        refine ih _ ⟨by simp only [put_len]; exact hx.1, by dsimp only; omega⟩ ?_
        simp only [put_len]; omega
      · simp only [h1, decide_false, Bool.cond_false]; exact hx.1) (((a.length : Int) - 0 : Int).toNat + 1) (a, k, 0) ⟨rfl, by dsimp only; omega⟩ (by dsimp only; omega)
  simp only [m_laws_markSettingS]; exact h'
theorem markChangeS_rng {a : List gChange} {k : Int} (h0 : 0 ≤ k) (h1 : k + 64 * ((a.length : Int)) ≤ 9223372036854770000) : k ≤ (m_laws_markChangeS a k).1 ∧ (m_laws_markChangeS a k).1 ≤ k + 64 * ((a.length : Int)) := by
  have h := LOOP_markv (b := m_laws_markChangeS_b1 a k) (k := fun x => (x.2.1, x.1)) (fun xs kk i => (m_laws_markChangeS_b1 a k (fun x => (0, x.1)) (fun x => (0, x.1)) (xs, kk, i)).2) (fun kk => IntKind.wrap .i64 ((IntKind.wrap .i64 ((IntKind.wrap .i64 (kk + 1)) + 1)) + 1))
    (fun rec xs kk i h0 h1 => by simp only [m_laws_markChangeS_b1, h1, decide_true, Bool.cond_true]) (fun xs kk i => by simp only [m_laws_markChangeS_b1]; cases decide (i < (xs.length : Int)) <;> simp [put_len]) (fun rec xs kk i h1 => by simp only [m_laws_markChangeS_b1, h1, decide_false, Bool.cond_false]) (fun kk h0 h1 => by rw [wr64 (n := kk + 1) (by omega), wr64 (n := kk + 1 + 1) (by omega), wr64 (n := kk + 1 + 1 + 1) (by omega)]; omega) (fun _ => rfl) (((a.length : Int) - 0 : Int).toNat + 1) a k 0 h0 (by omega) (by omega) (by omega) (by omega)
  simp only [m_laws_markChangeS]
  omega
theorem markChangeS_le {a : List gChange} {k : Int} (h : k ≤ 9223372036854775807) : (m_laws_markChangeS a k).1 ≤ 9223372036854775807 := by
  have h' := LOOP_post (b := m_laws_markChangeS_b1 a k) (k := fun x => (x.2.1, x.1)) (fun x => x.2.1 ≤ 9223372036854775807 ∧ 0 ≤ x.2.2) (fun x => ((x.1.length : Int) - x.2.2).toNat) (fun _ r => r.1 ≤ 9223372036854775807)
    (fun rec x hx ih => by
      simp only [m_laws_markChangeS_b1]
      by_cases h1 : x.2.2 < (x.1.length : Int)
      · simp only [h1, decide_true, Bool.cond_true]
        refine ih _ ⟨wr64_le, by dsimp only; omega⟩ ?_
        simp only [put_len]; omega
      · simp only [h1, decide_false, Bool.cond_false]; exact hx.1) (((a.length : Int) - 0 : Int).toNat + 1) (a, k, 0) ⟨h, by dsimp only; omega⟩ (by dsimp only; omega)
  simp only [m_laws_markChangeS]; exact h'
theorem markChangeS_len {a : List gChange} {k : Int} : (m_laws_markChangeS a k).2.length = a.length := by
  have h' := LOOP_post (b := m_laws_markChangeS_b1 a k) (k := fun x => (x.2.1, x.1)) (fun x => x.1.length = a.length ∧ 0 ≤ x.2.2) (fun x => ((x.1.length : Int) - x.2.2).toNat) (fun _ r => r.2.length = a.length)
    (fun rec x hx ih => by
      simp only [m_laws_markChangeS_b1]
      by_cases h1 : x.2.2 < (x.1.length : Int)
      · simp only [h1, decide_true, Bool.cond_true]
        refine ih _ ⟨by simp only [put_len]; exact hx.1, by dsimp only; omega⟩ ?_
        simp only [put_len]; omega
      · simp only [h1, decide_false, Bool.cond_false]; exact hx.1) (((a.length : Int) - 0 : Int).toNat + 1) (a, k, 0) ⟨rfl, by dsimp only; omega⟩ (by dsimp only; omega)
  simp only [m_laws_markChangeS]; exact h'

end Go.Proofs.Ytbflomopgofkgaa
