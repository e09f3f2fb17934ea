/-
  PLAIN LAWS about the models: no program in sight. Conditions: as each theorem states them.
-/
import Derived.Test.YtdkkcemlnjlebaaExactMergeVersionsModels
set_option linter.unusedVariables false
set_option linter.unusedSimpArgs false
set_option linter.unusedSectionVars false
set_option linter.unnecessarySimpa false
namespace Go.Proofs.Ytdkkcemlnjlebaa
open Go Go.RowKit Go.Proofs Go.Proofs.Ytdkkcemlnjlebaa.E
/-! ## Sizes, copies, equality: printed by a program of this claim -/
abbrev gSetting.ok (x : gSetting) : Prop := (x.Name.length ≤ 9223372036854775807) ∧ (-9223372036854775808 ≤ x.Value ∧ x.Value ≤ 9223372036854775807)
abbrev gVersion.ok (x : gVersion) : Prop := (-9223372036854775808 ≤ x.Number ∧ x.Number ≤ 9223372036854775807) ∧ (-9223372036854775808 ≤ x.Parent ∧ x.Parent ≤ 9223372036854775807) ∧ (x.Memo.length ≤ 9223372036854775807) ∧ (x.State.length ≤ 9223372036854775807 ∧ ∀ y ∈ x.State, gSetting.ok y)
abbrev gSetting.sz (x : gSetting) : Prop := (x.Name.length ≤ 1048576)
theorem szSetting_le {a : gSetting} {l : Int} (hs : gSetting.ok a) (h0 : 0 ≤ l) (h1 : l ≤ 1048576) : m_laws_szSetting a l ≤ l ∧ (0 ≤ m_laws_szSetting a l → gSetting.sz a) := by
  have hs' := hs
  unfold gSetting.ok at hs'
  simp only [m_laws_szSetting, gSetting.sz]
  rw [wr64 (n := l - (a.Name.length : Int)) (by omega)]
  by_cases h_1 : (l - (a.Name.length : Int)) < 0
  · simp only [h_1, decide_true, Bool.cond_true]; exact ⟨by omega, fun h => absurd h (by omega)⟩
  simp only [h_1, decide_false, Bool.cond_false]
  exact ⟨by omega, fun _ => by omega⟩
theorem szSetting_impA {a : gSetting} {l : Int} (hs : gSetting.ok a) (h0 : 0 ≤ l) (h1 : l ≤ 1048576) (h : 0 ≤ m_laws_szSetting a l) : m_laws_szSetting a l ≤ l := (szSetting_le hs h0 h1).1
theorem szSetting_impB {a : gSetting} {l : Int} (hs : gSetting.ok a) (h0 : 0 ≤ l) (h1 : l ≤ 1048576) (h : 0 ≤ m_laws_szSetting a l) : gSetting.sz a := (szSetting_le hs h0 h1).2 h
theorem szSettingS_le {a : List gSetting} {l : Int} (hs : a.length ≤ 9223372036854775807 ∧ ∀ y ∈ a, gSetting.ok y) (h0 : 0 ≤ l) (h1 : l ≤ 1048576) : m_laws_szSettingS a l ≤ l ∧ (0 ≤ m_laws_szSettingS a l → a.length ≤ 1048576 ∧ ∀ y ∈ a, gSetting.sz y) := by
  simp only [m_laws_szSettingS]
  rw [wr64 (n := l - (a.length : Int)) (by omega)]
  by_cases h : l - (a.length : Int) < 0
  · simp only [h, decide_true, Bool.cond_true]; exact ⟨by omega, fun h => absurd h (by omega)⟩
  simp only [h, decide_false, Bool.cond_false]
  have s := LOOP_szq (b := m_laws_szSettingS_b1 a l) (n := a.length) (f := fun i l => m_laws_szSetting (at' a i) l) (Q := fun i => gSetting.sz (at' a i)) (k := fun x => x.1) (fun rec k x h0 h1 h2 h3 => by simp only [m_laws_szSettingS_b1, h1, decide_true, Bool.cond_true]) (fun rec k x h1 => by simp only [m_laws_szSettingS_b1, h1, decide_false, Bool.cond_false]) (fun i l hi hn h0 h1 => szSetting_le (at_all hs.2 ⟨hi, hn⟩) h0 h1) (fun _ => rfl) (((a.length : Int) - 0 : Int).toNat + 1) (l - a.length) 0 (by omega) (by omega) (by omega) (by omega) (by omega)
  exact ⟨by omega, fun h => ⟨by omega, all_at.2 fun j hj => s.2 h j (by omega) (by omega)⟩⟩
theorem szSettingS_impA {a : List gSetting} {l : Int} (hs : a.length ≤ 9223372036854775807 ∧ ∀ y ∈ a, gSetting.ok y) (h0 : 0 ≤ l) (h1 : l ≤ 1048576) (h : 0 ≤ m_laws_szSettingS a l) : m_laws_szSettingS a l ≤ l := (szSettingS_le hs h0 h1).1
theorem szSettingS_impB {a : List gSetting} {l : Int} (hs : a.length ≤ 9223372036854775807 ∧ ∀ y ∈ a, gSetting.ok y) (h0 : 0 ≤ l) (h1 : l ≤ 1048576) (h : 0 ≤ m_laws_szSettingS a l) : a.length ≤ 1048576 ∧ ∀ y ∈ a, gSetting.sz y := (szSettingS_le hs h0 h1).2 h
abbrev gVersion.sz (x : gVersion) : Prop := (x.Memo.length ≤ 1048576) ∧ (x.State.length ≤ 1048576 ∧ ∀ y ∈ x.State, gSetting.sz y)
theorem szVersion_le {a : gVersion} {l : Int} (hs : gVersion.ok a) (h0 : 0 ≤ l) (h1 : l ≤ 1048576) : m_laws_szVersion a l ≤ l ∧ (0 ≤ m_laws_szVersion a l → gVersion.sz a) := by
  have hs' := hs
  unfold gVersion.ok at hs'
  simp only [m_laws_szVersion, gVersion.sz]
  rw [wr64 (n := l - (a.Memo.length : Int)) (by omega)]
  by_cases h_1 : (l - (a.Memo.length : Int)) < 0
  · simp only [h_1, decide_true, Bool.cond_true]; exact ⟨by omega, fun h => absurd h (by omega)⟩
  simp only [h_1, decide_false, Bool.cond_false]
  have s2 := szSettingS_le (a := a.State) (l := (l - (a.Memo.length : Int))) hs'.2.2.2 (by omega) (by omega)
  by_cases h_2 : (m_laws_szSettingS a.State (l - (a.Memo.length : Int))) < 0
  · simp only [h_2, decide_true, Bool.cond_true]; exact ⟨by omega, fun h => absurd h (by omega)⟩
  simp only [h_2, decide_false, Bool.cond_false]
  exact ⟨by omega, fun _ => ⟨by omega, s2.2 (by omega)⟩⟩
theorem szVersion_impA {a : gVersion} {l : Int} (hs : gVersion.ok a) (h0 : 0 ≤ l) (h1 : l ≤ 1048576) (h : 0 ≤ m_laws_szVersion a l) : m_laws_szVersion a l ≤ l := (szVersion_le hs h0 h1).1
theorem szVersion_impB {a : gVersion} {l : Int} (hs : gVersion.ok a) (h0 : 0 ≤ l) (h1 : l ≤ 1048576) (h : 0 ≤ m_laws_szVersion a l) : gVersion.sz a := (szVersion_le hs h0 h1).2 h
theorem szVersionS_le {a : List gVersion} {l : Int} (hs : a.length ≤ 9223372036854775807 ∧ ∀ y ∈ a, gVersion.ok y) (h0 : 0 ≤ l) (h1 : l ≤ 1048576) : m_laws_szVersionS a l ≤ l ∧ (0 ≤ m_laws_szVersionS a l → a.length ≤ 1048576 ∧ ∀ y ∈ a, gVersion.sz y) := by
  simp only [m_laws_szVersionS]
  rw [wr64 (n := l - (a.length : Int)) (by omega)]
  by_cases h : l - (a.length : Int) < 0
  · simp only [h, decide_true, Bool.cond_true]; exact ⟨by omega, fun h => absurd h (by omega)⟩
  simp only [h, decide_false, Bool.cond_false]
  have s := LOOP_szq (b := m_laws_szVersionS_b1 a l) (n := a.length) (f := fun i l => m_laws_szVersion (at' a i) l) (Q := fun i => gVersion.sz (at' a i)) (k := fun x => x.1) (fun rec k x h0 h1 h2 h3 => by simp only [m_laws_szVersionS_b1, h1, decide_true, Bool.cond_true]) (fun rec k x h1 => by simp only [m_laws_szVersionS_b1, h1, decide_false, Bool.cond_false]) (fun i l hi hn h0 h1 => szVersion_le (at_all hs.2 ⟨hi, hn⟩) h0 h1) (fun _ => rfl) (((a.length : Int) - 0 : Int).toNat + 1) (l - a.length) 0 (by omega) (by omega) (by omega) (by omega) (by omega)
  exact ⟨by omega, fun h => ⟨by omega, all_at.2 fun j hj => s.2 h j (by omega) (by omega)⟩⟩
theorem szVersionS_impA {a : List gVersion} {l : Int} (hs : a.length ≤ 9223372036854775807 ∧ ∀ y ∈ a, gVersion.ok y) (h0 : 0 ≤ l) (h1 : l ≤ 1048576) (h : 0 ≤ m_laws_szVersionS a l) : m_laws_szVersionS a l ≤ l := (szVersionS_le hs h0 h1).1
theorem szVersionS_impB {a : List gVersion} {l : Int} (hs : a.length ≤ 9223372036854775807 ∧ ∀ y ∈ a, gVersion.ok y) (h0 : 0 ≤ l) (h1 : l ≤ 1048576) (h : 0 ≤ m_laws_szVersionS a l) : a.length ≤ 1048576 ∧ ∀ y ∈ a, gVersion.sz y := (szVersionS_le hs h0 h1).2 h
theorem cf_int64 {s : List Int} {f : Int → Bool} : m_slices_ContainsFunc_int64 s f = true ↔ ∃ y ∈ s, f y = true := by
  have hd : m_slices_ContainsFunc_int64 s f = true ↔ 0 ≤ LOOP (m_slices_IndexFunc_int64_b1 s f) (fun _ => (-1)) (((s.length : Int) - 0 : Int).toNat + 1) 0 := decide_eq_true_iff
  rw [hd]
  rcases LOOP_find (b := m_slices_IndexFunc_int64_b1 s f) (k := fun _ => (-1)) (n := (s.length : Int)) (fun i => f (at' s i)) (fun i => i) (fun rec i h0 h1 => by simp only [m_slices_IndexFunc_int64_b1, h1, decide_true, Bool.cond_true]) (fun rec => by simp [m_slices_IndexFunc_int64_b1]) (((s.length : Int) - 0 : Int).toNat + 1) 0 (by omega) (by omega) (by omega) with ⟨j, h1, h2, h3, h4, h5⟩ | ⟨h1, h2⟩
  · rw [h5]; exact ⟨fun _ => ⟨_, at_mem ⟨h1, h2⟩, h3⟩, fun _ => h1⟩
  · rw [h2]
    constructor
    · intro h; omega
    · rintro ⟨y, hy, h⟩
      obtain ⟨j, hj, e⟩ := List.mem_iff_getElem.1 hy
      have := h1 j (by omega) (by omega)
      rw [at_lt hj, e, h] at this; simp at this
/-- the first place with a property, or -1 -/
theorem if_int64 {s : List Int} {f : Int → Bool} : (∃ j : Int, 0 ≤ j ∧ j < s.length ∧ f (at' s j) = true ∧ (∀ q : Int, 0 ≤ q → q < j → f (at' s q) = false) ∧ m_slices_IndexFunc_int64 s f = j) ∨ ((∀ q : Int, 0 ≤ q → q < s.length → f (at' s q) = false) ∧ m_slices_IndexFunc_int64 s f = -1) := by
  rcases LOOP_find (b := m_slices_IndexFunc_int64_b1 s f) (k := fun _ => (-1)) (n := (s.length : Int)) (fun i => f (at' s i)) (fun i => i) (fun rec i h0 h1 => by simp only [m_slices_IndexFunc_int64_b1, h1, decide_true, Bool.cond_true]) (fun rec => by simp [m_slices_IndexFunc_int64_b1]) (((s.length : Int) - 0 : Int).toNat + 1) 0 (by omega) (by omega) (by omega) with ⟨j, h1, h2, h3, h4, h5⟩ | ⟨h1, h2⟩
  · exact .inl ⟨j, h1, h2, h3, h4, h5⟩
  · exact .inr ⟨h1, h2⟩
theorem toSetting_eq (a : gSetting) : m_laws_toSetting a = a := by simp only [m_laws_toSetting]
theorem toSettingS_eq (a : List gSetting) : m_laws_toSettingS a = a := by
  simp only [m_laws_toSettingS]
  exact LOOP_fill (b := m_laws_toSettingS_b1 a) (fun rec k x => by simp only [m_laws_toSettingS_b1, toSetting_eq]) (fun _ => rfl) _ _ 0 (by simp) (by omega) rfl (by omega)
theorem toVersion_eq (a : gVersion) : m_laws_toVersion a = a := by simp only [m_laws_toVersion, toSetting_eq, toSettingS_eq]
theorem toVersionS_eq (a : List gVersion) : m_laws_toVersionS a = a := by
  simp only [m_laws_toVersionS]
  exact LOOP_fill (b := m_laws_toVersionS_b1 a) (fun rec k x => by simp only [m_laws_toVersionS_b1, toSetting_eq, toSettingS_eq, toVersion_eq]) (fun _ => rfl) _ _ 0 (by simp) (by omega) rfl (by omega)
theorem eqSetting_refl (a : gSetting) : m_laws_eqSetting a a = true := by simp [m_laws_eqSetting, strB]
theorem eqSettingS_refl (a : List gSetting) : m_laws_eqSettingS a a = true := by
  simp only [m_laws_eqSettingS, bne_self_eq_false, Bool.cond_false]
  rw [LOOP_all (b := m_laws_eqSettingS_b1 a a) (n := a.length) (bad := fun _ => false) (fun rec k i _ => by simp [m_laws_eqSettingS_b1, strB, eqSetting_refl]) (k := fun _ => true) _ 0 (by omega) (by omega) (by omega)]
  simp
theorem eqVersion_refl (a : gVersion) : m_laws_eqVersion a a = true := by simp [m_laws_eqVersion, strB, eqSetting_refl, eqSettingS_refl]
theorem eqVersionS_refl (a : List gVersion) : m_laws_eqVersionS a a = true := by
  simp only [m_laws_eqVersionS, bne_self_eq_false, Bool.cond_false]
  rw [LOOP_all (b := m_laws_eqVersionS_b1 a a) (n := a.length) (bad := fun _ => false) (fun rec k i _ => by simp [m_laws_eqVersionS_b1, strB, eqSetting_refl, eqSettingS_refl, eqVersion_refl]) (k := fun _ => true) _ 0 (by omega) (by omega) (by omega)]
  simp
theorem markSettingS_rng {a : List gSetting} {k : Int} (h0 : 0 ≤ k) (h1 : k + 64 * ((a.length : Int)) ≤ 9223372036854770000) : k ≤ (m_laws_markSettingS a k).1 ∧ (m_laws_markSettingS a k).1 ≤ k + 64 * ((a.length : Int)) := by
  have h := LOOP_markv (b := m_laws_markSettingS_b1 a k) (k := fun x => (x.2.1, x.1)) (fun xs kk i => (m_laws_markSettingS_b1 a k (fun x => (0, x.1)) (fun x => (0, x.1)) (xs, kk, i)).2) (fun kk => IntKind.wrap .i64 ((IntKind.wrap .i64 (kk + 1)) + 1))
    (fun rec xs kk i h0 h1 => by simp only [m_laws_markSettingS_b1, h1, decide_true, Bool.cond_true]) (fun xs kk i => by simp only [m_laws_markSettingS_b1]; cases decide (i < (xs.length : Int)) <;> simp [put_len]) (fun rec xs kk i h1 => by simp only [m_laws_markSettingS_b1, h1, decide_false, Bool.cond_false]) (fun kk h0 h1 => by rw [wr64 (n := kk + 1) (by omega), wr64 (n := kk + 1 + 1) (by omega)]; omega) (fun _ => rfl) (((a.length : Int) - 0 : Int).toNat + 1) a k 0 h0 (by omega) (by omega) (by omega) (by omega)
  simp only [m_laws_markSettingS]
  omega
theorem markSettingS_le {a : List gSetting} {k : Int} (h : k ≤ 9223372036854775807) : (m_laws_markSettingS a k).1 ≤ 9223372036854775807 := by
  have h' := LOOP_post (b := m_laws_markSettingS_b1 a k) (k := fun x => (x.2.1, x.1)) (fun x => x.2.1 ≤ 9223372036854775807 ∧ 0 ≤ x.2.2) (fun x => ((x.1.length : Int) - x.2.2).toNat) (fun _ r => r.1 ≤ 9223372036854775807)
    (fun rec x hx ih => by
      simp only [m_laws_markSettingS_b1]
      by_cases h1 : x.2.2 < (x.1.length : Int)
      · simp only [h1, decide_true, Bool.cond_true]
        refine ih _ ⟨wr64_le, by dsimp only; omega⟩ ?_
        simp only [put_len]; omega
      · simp only [h1, decide_false, Bool.cond_false]; exact hx.1) (((a.length : Int) - 0 : Int).toNat + 1) (a, k, 0) ⟨h, by dsimp only; omega⟩ (by dsimp only; omega)
  simp only [m_laws_markSettingS]; exact h'
theorem markSettingS_len {a : List gSetting} {k : Int} : (m_laws_markSettingS a k).2.length = a.length := by
  have h' := LOOP_post (b := m_laws_markSettingS_b1 a k) (k := fun x => (x.2.1, x.1)) (fun x => x.1.length = a.length ∧ 0 ≤ x.2.2) (fun x => ((x.1.length : Int) - x.2.2).toNat) (fun _ r => r.2.length = a.length)
    (fun rec x hx ih => by
      simp only [m_laws_markSettingS_b1]
      by_cases h1 : x.2.2 < (x.1.length : Int)
      · simp only [h1, decide_true, Bool.cond_true]
        refine ih _ ⟨by simp only [put_len]; exact hx.1, by dsimp only; omega⟩ ?_
        simp only [put_len]; omega
      · simp only [h1, decide_false, Bool.cond_false]; exact hx.1) (((a.length : Int) - 0 : Int).toNat + 1) (a, k, 0) ⟨rfl, by dsimp only; omega⟩ (by dsimp only; omega)
  simp only [m_laws_markSettingS]; exact h'
theorem markVersionS_len {a : List gVersion} {k : Int} : (m_laws_markVersionS a k).2.length = a.length := by
  have h' := LOOP_post (b := m_laws_markVersionS_b1 a k) (k := fun x => (x.2.1, x.1)) (fun x => x.1.length = a.length ∧ 0 ≤ x.2.2) (fun x => ((x.1.length : Int) - x.2.2).toNat) (fun _ r => r.2.length = a.length)
    (fun rec x hx ih => by
      simp only [m_laws_markVersionS_b1]
      by_cases h1 : x.2.2 < (x.1.length : Int)
      · simp only [h1, decide_true, Bool.cond_true]
        refine ih _ ⟨by simp only [put_len]; exact hx.1, by dsimp only; omega⟩ ?_
        simp only [put_len]; omega
      · simp only [h1, decide_false, Bool.cond_false]; exact hx.1) (((a.length : Int) - 0 : Int).toNat + 1) (a, k, 0) ⟨rfl, by dsimp only; omega⟩ (by dsimp only; omega)
  simp only [m_laws_markVersionS]; exact h'

end Go.Proofs.Ytdkkcemlnjlebaa
