/-
  PLAIN LAWS about the models: no program in sight. Conditions: as each theorem states them.
-/
import Derived.Test.YtibbfdojcdkopaaExactAssignCrewsModels
set_option linter.unusedVariables false
set_option linter.unusedSimpArgs false
set_option linter.unusedSectionVars false
set_option linter.unnecessarySimpa false
namespace Go.Proofs.Ytibbfdojcdkopaa
open Go Go.RowKit Go.Proofs Go.Proofs.Ytibbfdojcdkopaa.E
/-! ## Sizes, copies, equality: printed by a program of this claim -/
abbrev gAirway.ok (x : gAirway) : Prop := (x.Id.length ≤ 9223372036854775807) ∧ (-9223372036854775808 ≤ x.From ∧ x.From ≤ 9223372036854775807) ∧ (-9223372036854775808 ≤ x.To ∧ x.To ≤ 9223372036854775807) ∧ (-9223372036854775808 ≤ x.Length ∧ x.Length ≤ 9223372036854775807) ∧ (-9223372036854775808 ≤ x.Section ∧ x.Section ≤ 9223372036854775807) ∧ (-9223372036854775808 ≤ x.Friction ∧ x.Friction ≤ 9223372036854775807) ∧ (-9223372036854775808 ≤ x.Shock ∧ x.Shock ≤ 9223372036854775807)
abbrev gMine.ok (x : gMine) : Prop := (-9223372036854775808 ≤ x.Junctions ∧ x.Junctions ≤ 9223372036854775807) ∧ (x.Airways.length ≤ 9223372036854775807 ∧ ∀ y ∈ x.Airways, gAirway.ok y)
abbrev gCrew.ok (x : gCrew) : Prop := (x.Id.length ≤ 9223372036854775807) ∧ (-9223372036854775808 ≤ x.Junction ∧ x.Junction ≤ 9223372036854775807) ∧ (-9223372036854775808 ≤ x.Speed ∧ x.Speed ≤ 9223372036854775807)
abbrev gRefuge.ok (x : gRefuge) : Prop := (x.Id.length ≤ 9223372036854775807) ∧ (-9223372036854775808 ≤ x.Junction ∧ x.Junction ≤ 9223372036854775807) ∧ (-9223372036854775808 ≤ x.Places ∧ x.Places ≤ 9223372036854775807) ∧ (-9223372036854775808 ≤ x.Air ∧ x.Air ≤ 9223372036854775807)
abbrev gAirway.sz (x : gAirway) : Prop := (x.Id.length ≤ 1048576)
theorem szAirway_le {a : gAirway} {l : Int} (hs : gAirway.ok a) (h0 : 0 ≤ l) (h1 : l ≤ 1048576) : m_laws_szAirway a l ≤ l ∧ (0 ≤ m_laws_szAirway a l → gAirway.sz a) := by
  have hs' := hs
  unfold gAirway.ok at hs'
  simp only [m_laws_szAirway, gAirway.sz]
  rw [wr64 (n := l - (a.Id.length : Int)) (by omega)]
  by_cases h_1 : (l - (a.Id.length : Int)) < 0
  · simp only [h_1, decide_true, Bool.cond_true]; exact ⟨by omega, fun h => absurd h (by omega)⟩
  simp only [h_1, decide_false, Bool.cond_false]
  exact ⟨by omega, fun _ => by omega⟩
theorem szAirway_impA {a : gAirway} {l : Int} (hs : gAirway.ok a) (h0 : 0 ≤ l) (h1 : l ≤ 1048576) (h : 0 ≤ m_laws_szAirway a l) : m_laws_szAirway a l ≤ l := (szAirway_le hs h0 h1).1
theorem szAirway_impB {a : gAirway} {l : Int} (hs : gAirway.ok a) (h0 : 0 ≤ l) (h1 : l ≤ 1048576) (h : 0 ≤ m_laws_szAirway a l) : gAirway.sz a := (szAirway_le hs h0 h1).2 h
theorem szAirwayS_le {a : List gAirway} {l : Int} (hs : a.length ≤ 9223372036854775807 ∧ ∀ y ∈ a, gAirway.ok y) (h0 : 0 ≤ l) (h1 : l ≤ 1048576) : m_laws_szAirwayS a l ≤ l ∧ (0 ≤ m_laws_szAirwayS a l → a.length ≤ 1048576 ∧ ∀ y ∈ a, gAirway.sz y) := by
  simp only [m_laws_szAirwayS]
  rw [wr64 (n := l - (a.length : Int)) (by omega)]
  by_cases h : l - (a.length : Int) < 0
  · simp only [h, decide_true, Bool.cond_true]; exact ⟨by omega, fun h => absurd h (by omega)⟩
  simp only [h, decide_false, Bool.cond_false]
  have s := LOOP_szq (b := m_laws_szAirwayS_b1 a l) (n := a.length) (f := fun i l => m_laws_szAirway (at' a i) l) (Q := fun i => gAirway.sz (at' a i)) (k := fun x => x.1) (fun rec k x h0 h1 h2 h3 => by simp only [m_laws_szAirwayS_b1, h1, decide_true, Bool.cond_true]) (fun rec k x h1 => by simp only [m_laws_szAirwayS_b1, h1, decide_false, Bool.cond_false]) (fun i l hi hn h0 h1 => szAirway_le (at_all hs.2 ⟨hi, hn⟩) h0 h1) (fun _ => rfl) (((a.length : Int) - 0 : Int).toNat + 1) (l - a.length) 0 (by omega) (by omega) (by omega) (by omega) (by omega)
  exact ⟨by omega, fun h => ⟨by omega, all_at.2 fun j hj => s.2 h j (by omega) (by omega)⟩⟩
theorem szAirwayS_impA {a : List gAirway} {l : Int} (hs : a.length ≤ 9223372036854775807 ∧ ∀ y ∈ a, gAirway.ok y) (h0 : 0 ≤ l) (h1 : l ≤ 1048576) (h : 0 ≤ m_laws_szAirwayS a l) : m_laws_szAirwayS a l ≤ l := (szAirwayS_le hs h0 h1).1
theorem szAirwayS_impB {a : List gAirway} {l : Int} (hs : a.length ≤ 9223372036854775807 ∧ ∀ y ∈ a, gAirway.ok y) (h0 : 0 ≤ l) (h1 : l ≤ 1048576) (h : 0 ≤ m_laws_szAirwayS a l) : a.length ≤ 1048576 ∧ ∀ y ∈ a, gAirway.sz y := (szAirwayS_le hs h0 h1).2 h
abbrev gMine.sz (x : gMine) : Prop := (x.Airways.length ≤ 1048576 ∧ ∀ y ∈ x.Airways, gAirway.sz y)
theorem szMine_le {a : gMine} {l : Int} (hs : gMine.ok a) (h0 : 0 ≤ l) (h1 : l ≤ 1048576) : m_laws_szMine a l ≤ l ∧ (0 ≤ m_laws_szMine a l → gMine.sz a) := by
  have hs' := hs
  unfold gMine.ok at hs'
  simp only [m_laws_szMine, gMine.sz]
  have s1 := szAirwayS_le (a := a.Airways) (l := l) hs'.2 (by omega) (by omega)
  by_cases h_1 : (m_laws_szAirwayS a.Airways l) < 0
  · simp only [h_1, decide_true, Bool.cond_true]; exact ⟨by omega, fun h => absurd h (by omega)⟩
  simp only [h_1, decide_false, Bool.cond_false]
  exact ⟨by omega, fun _ => s1.2 (by omega)⟩
theorem szMine_impA {a : gMine} {l : Int} (hs : gMine.ok a) (h0 : 0 ≤ l) (h1 : l ≤ 1048576) (h : 0 ≤ m_laws_szMine a l) : m_laws_szMine a l ≤ l := (szMine_le hs h0 h1).1
theorem szMine_impB {a : gMine} {l : Int} (hs : gMine.ok a) (h0 : 0 ≤ l) (h1 : l ≤ 1048576) (h : 0 ≤ m_laws_szMine a l) : gMine.sz a := (szMine_le hs h0 h1).2 h
abbrev gCrew.sz (x : gCrew) : Prop := (x.Id.length ≤ 1048576)
theorem szCrew_le {a : gCrew} {l : Int} (hs : gCrew.ok a) (h0 : 0 ≤ l) (h1 : l ≤ 1048576) : m_laws_szCrew a l ≤ l ∧ (0 ≤ m_laws_szCrew a l → gCrew.sz a) := by
  have hs' := hs
  unfold gCrew.ok at hs'
  simp only [m_laws_szCrew, gCrew.sz]
  rw [wr64 (n := l - (a.Id.length : Int)) (by omega)]
  by_cases h_1 : (l - (a.Id.length : Int)) < 0
  · simp only [h_1, decide_true, Bool.cond_true]; exact ⟨by omega, fun h => absurd h (by omega)⟩
  simp only [h_1, decide_false, Bool.cond_false]
  exact ⟨by omega, fun _ => by omega⟩
theorem szCrew_impA {a : gCrew} {l : Int} (hs : gCrew.ok a) (h0 : 0 ≤ l) (h1 : l ≤ 1048576) (h : 0 ≤ m_laws_szCrew a l) : m_laws_szCrew a l ≤ l := (szCrew_le hs h0 h1).1
theorem szCrew_impB {a : gCrew} {l : Int} (hs : gCrew.ok a) (h0 : 0 ≤ l) (h1 : l ≤ 1048576) (h : 0 ≤ m_laws_szCrew a l) : gCrew.sz a := (szCrew_le hs h0 h1).2 h
theorem szCrewS_le {a : List gCrew} {l : Int} (hs : a.length ≤ 9223372036854775807 ∧ ∀ y ∈ a, gCrew.ok y) (h0 : 0 ≤ l) (h1 : l ≤ 1048576) : m_laws_szCrewS a l ≤ l ∧ (0 ≤ m_laws_szCrewS a l → a.length ≤ 1048576 ∧ ∀ y ∈ a, gCrew.sz y) := by
  simp only [m_laws_szCrewS]
  rw [wr64 (n := l - (a.length : Int)) (by omega)]
  by_cases h : l - (a.length : Int) < 0
  · simp only [h, decide_true, Bool.cond_true]; exact ⟨by omega, fun h => absurd h (by omega)⟩
  simp only [h, decide_false, Bool.cond_false]
  have s := LOOP_szq (b := m_laws_szCrewS_b1 a l) (n := a.length) (f := fun i l => m_laws_szCrew (at' a i) l) (Q := fun i => gCrew.sz (at' a i)) (k := fun x => x.1) (fun rec k x h0 h1 h2 h3 => by simp only [m_laws_szCrewS_b1, h1, decide_true, Bool.cond_true]) (fun rec k x h1 => by simp only [m_laws_szCrewS_b1, h1, decide_false, Bool.cond_false]) (fun i l hi hn h0 h1 => szCrew_le (at_all hs.2 ⟨hi, hn⟩) h0 h1) (fun _ => rfl) (((a.length : Int) - 0 : Int).toNat + 1) (l - a.length) 0 (by omega) (by omega) (by omega) (by omega) (by omega)
  exact ⟨by omega, fun h => ⟨by omega, all_at.2 fun j hj => s.2 h j (by omega) (by omega)⟩⟩
theorem szCrewS_impA {a : List gCrew} {l : Int} (hs : a.length ≤ 9223372036854775807 ∧ ∀ y ∈ a, gCrew.ok y) (h0 : 0 ≤ l) (h1 : l ≤ 1048576) (h : 0 ≤ m_laws_szCrewS a l) : m_laws_szCrewS a l ≤ l := (szCrewS_le hs h0 h1).1
theorem szCrewS_impB {a : List gCrew} {l : Int} (hs : a.length ≤ 9223372036854775807 ∧ ∀ y ∈ a, gCrew.ok y) (h0 : 0 ≤ l) (h1 : l ≤ 1048576) (h : 0 ≤ m_laws_szCrewS a l) : a.length ≤ 1048576 ∧ ∀ y ∈ a, gCrew.sz y := (szCrewS_le hs h0 h1).2 h
abbrev gRefuge.sz (x : gRefuge) : Prop := (x.Id.length ≤ 1048576)
theorem szRefuge_le {a : gRefuge} {l : Int} (hs : gRefuge.ok a) (h0 : 0 ≤ l) (h1 : l ≤ 1048576) : m_laws_szRefuge a l ≤ l ∧ (0 ≤ m_laws_szRefuge a l → gRefuge.sz a) := by
  have hs' := hs
  unfold gRefuge.ok at hs'
  simp only [m_laws_szRefuge, gRefuge.sz]
  rw [wr64 (n := l - (a.Id.length : Int)) (by omega)]
  by_cases h_1 : (l - (a.Id.length : Int)) < 0
  · simp only [h_1, decide_true, Bool.cond_true]; exact ⟨by omega, fun h => absurd h (by omega)⟩
  simp only [h_1, decide_false, Bool.cond_false]
  exact ⟨by omega, fun _ => by omega⟩
theorem szRefuge_impA {a : gRefuge} {l : Int} (hs : gRefuge.ok a) (h0 : 0 ≤ l) (h1 : l ≤ 1048576) (h : 0 ≤ m_laws_szRefuge a l) : m_laws_szRefuge a l ≤ l := (szRefuge_le hs h0 h1).1
theorem szRefuge_impB {a : gRefuge} {l : Int} (hs : gRefuge.ok a) (h0 : 0 ≤ l) (h1 : l ≤ 1048576) (h : 0 ≤ m_laws_szRefuge a l) : gRefuge.sz a := (szRefuge_le hs h0 h1).2 h
theorem szRefugeS_le {a : List gRefuge} {l : Int} (hs : a.length ≤ 9223372036854775807 ∧ ∀ y ∈ a, gRefuge.ok y) (h0 : 0 ≤ l) (h1 : l ≤ 1048576) : m_laws_szRefugeS a l ≤ l ∧ (0 ≤ m_laws_szRefugeS a l → a.length ≤ 1048576 ∧ ∀ y ∈ a, gRefuge.sz y) := by
  simp only [m_laws_szRefugeS]
  rw [wr64 (n := l - (a.length : Int)) (by omega)]
  by_cases h : l - (a.length : Int) < 0
  · simp only [h, decide_true, Bool.cond_true]; exact ⟨by omega, fun h => absurd h (by omega)⟩
  simp only [h, decide_false, Bool.cond_false]
  have s := LOOP_szq (b := m_laws_szRefugeS_b1 a l) (n := a.length) (f := fun i l => m_laws_szRefuge (at' a i) l) (Q := fun i => gRefuge.sz (at' a i)) (k := fun x => x.1) (fun rec k x h0 h1 h2 h3 => by simp only [m_laws_szRefugeS_b1, h1, decide_true, Bool.cond_true]) (fun rec k x h1 => by simp only [m_laws_szRefugeS_b1, h1, decide_false, Bool.cond_false]) (fun i l hi hn h0 h1 => szRefuge_le (at_all hs.2 ⟨hi, hn⟩) h0 h1) (fun _ => rfl) (((a.length : Int) - 0 : Int).toNat + 1) (l - a.length) 0 (by omega) (by omega) (by omega) (by omega) (by omega)
  exact ⟨by omega, fun h => ⟨by omega, all_at.2 fun j hj => s.2 h j (by omega) (by omega)⟩⟩
theorem szRefugeS_impA {a : List gRefuge} {l : Int} (hs : a.length ≤ 9223372036854775807 ∧ ∀ y ∈ a, gRefuge.ok y) (h0 : 0 ≤ l) (h1 : l ≤ 1048576) (h : 0 ≤ m_laws_szRefugeS a l) : m_laws_szRefugeS a l ≤ l := (szRefugeS_le hs h0 h1).1
theorem szRefugeS_impB {a : List gRefuge} {l : Int} (hs : a.length ≤ 9223372036854775807 ∧ ∀ y ∈ a, gRefuge.ok y) (h0 : 0 ≤ l) (h1 : l ≤ 1048576) (h : 0 ≤ m_laws_szRefugeS a l) : a.length ≤ 1048576 ∧ ∀ y ∈ a, gRefuge.sz y := (szRefugeS_le hs h0 h1).2 h
theorem cf_int64 {s : List Int} {f : Int → Bool} : m_slices_ContainsFunc_int64 s f = true ↔ ∃ y ∈ s, f y = true := by
  have hd : m_slices_ContainsFunc_int64 s f = true ↔ 0 ≤ LOOP (m_slices_IndexFunc_int64_b1 s f) (fun _ => (-1)) (((s.length : Int) - 0 : Int).toNat + 1) 0 := decide_eq_true_iff
  rw [hd]
  rcases LOOP_find (b := m_slices_IndexFunc_int64_b1 s f) (k := fun _ => (-1)) (n := (s.length : Int)) (fun i => f (at' s i)) (fun i => i) (fun rec i h0 h1 => by simp only [m_slices_IndexFunc_int64_b1, h1, decide_true, Bool.cond_true]) (fun rec => by simp [m_slices_IndexFunc_int64_b1]) (((s.length : Int) - 0 : Int).toNat + 1) 0 (by omega) (by omega) (by omega) with ⟨j, h1, h2, h3, h4, h5⟩ | ⟨h1, h2⟩
  · rw [h5]; exact ⟨fun _ => ⟨_, at_mem ⟨h1, h2⟩, h3⟩, fun _ => h1⟩
  · rw [h2]
    constructor
    · intro h; omega
    · rintro ⟨y, hy, h⟩
      obtain ⟨j, hj, e⟩ := List.mem_iff_getElem.1 hy
      have := h1 j (by omega) (by omega)
      rw [at_lt hj, e, h] at this; simp at this
theorem toAirway_eq (a : gAirway) : m_laws_toAirway a = a := by simp only [m_laws_toAirway]
theorem toAirwayS_eq (a : List gAirway) : m_laws_toAirwayS a = a := by
  simp only [m_laws_toAirwayS]
  exact LOOP_fill (b := m_laws_toAirwayS_b1 a) (fun rec k x => by simp only [m_laws_toAirwayS_b1, toAirway_eq]) (fun _ => rfl) _ _ 0 (by simp) (by omega) rfl (by omega)
theorem toMine_eq (a : gMine) : m_laws_toMine a = a := by simp only [m_laws_toMine, toAirway_eq, toAirwayS_eq]
theorem toInt64S_eq (a : List Int) : m_laws_toInt64S a = a := by
  simp only [m_laws_toInt64S]
  exact LOOP_fill (b := m_laws_toInt64S_b1 a) (fun rec k x => by simp only [m_laws_toInt64S_b1, toAirway_eq, toAirwayS_eq, toMine_eq]) (fun _ => rfl) _ _ 0 (by simp) (by omega) rfl (by omega)
theorem toCrew_eq (a : gCrew) : m_laws_toCrew a = a := by simp only [m_laws_toCrew, toAirway_eq, toAirwayS_eq, toMine_eq, toInt64S_eq]
theorem toCrewS_eq (a : List gCrew) : m_laws_toCrewS a = a := by
  simp only [m_laws_toCrewS]
  exact LOOP_fill (b := m_laws_toCrewS_b1 a) (fun rec k x => by simp only [m_laws_toCrewS_b1, toAirway_eq, toAirwayS_eq, toMine_eq, toInt64S_eq, toCrew_eq]) (fun _ => rfl) _ _ 0 (by simp) (by omega) rfl (by omega)
theorem toRefuge_eq (a : gRefuge) : m_laws_toRefuge a = a := by simp only [m_laws_toRefuge, toAirway_eq, toAirwayS_eq, toMine_eq, toInt64S_eq, toCrew_eq, toCrewS_eq]
theorem toRefugeS_eq (a : List gRefuge) : m_laws_toRefugeS a = a := by
  simp only [m_laws_toRefugeS]
  exact LOOP_fill (b := m_laws_toRefugeS_b1 a) (fun rec k x => by simp only [m_laws_toRefugeS_b1, toAirway_eq, toAirwayS_eq, toMine_eq, toInt64S_eq, toCrew_eq, toCrewS_eq, toRefuge_eq]) (fun _ => rfl) _ _ 0 (by simp) (by omega) rfl (by omega)
theorem eqInt64S_refl (a : List Int) : m_laws_eqInt64S a a = true := by
  simp only [m_laws_eqInt64S, bne_self_eq_false, Bool.cond_false]
  rw [LOOP_all (b := m_laws_eqInt64S_b1 a a) (n := a.length) (bad := fun _ => false) (fun rec k i _ => by simp [m_laws_eqInt64S_b1, strB]) (k := fun _ => true) _ 0 (by omega) (by omega) (by omega)]
  simp
theorem eqAirway_refl (a : gAirway) : m_laws_eqAirway a a = true := by simp [m_laws_eqAirway, strB, eqInt64S_refl]
theorem eqAirwayS_refl (a : List gAirway) : m_laws_eqAirwayS a a = true := by
  simp only [m_laws_eqAirwayS, bne_self_eq_false, Bool.cond_false]
  rw [LOOP_all (b := m_laws_eqAirwayS_b1 a a) (n := a.length) (bad := fun _ => false) (fun rec k i _ => by simp [m_laws_eqAirwayS_b1, strB, eqInt64S_refl, eqAirway_refl]) (k := fun _ => true) _ 0 (by omega) (by omega) (by omega)]
  simp
theorem eqMine_refl (a : gMine) : m_laws_eqMine a a = true := by simp [m_laws_eqMine, strB, eqInt64S_refl, eqAirway_refl, eqAirwayS_refl]
theorem eqCrew_refl (a : gCrew) : m_laws_eqCrew a a = true := by simp [m_laws_eqCrew, strB, eqInt64S_refl, eqAirway_refl, eqAirwayS_refl, eqMine_refl]
theorem eqCrewS_refl (a : List gCrew) : m_laws_eqCrewS a a = true := by
  simp only [m_laws_eqCrewS, bne_self_eq_false, Bool.cond_false]
  rw [LOOP_all (b := m_laws_eqCrewS_b1 a a) (n := a.length) (bad := fun _ => false) (fun rec k i _ => by simp [m_laws_eqCrewS_b1, strB, eqInt64S_refl, eqAirway_refl, eqAirwayS_refl, eqMine_refl, eqCrew_refl]) (k := fun _ => true) _ 0 (by omega) (by omega) (by omega)]
  simp
theorem eqRefuge_refl (a : gRefuge) : m_laws_eqRefuge a a = true := by simp [m_laws_eqRefuge, strB, eqInt64S_refl, eqAirway_refl, eqAirwayS_refl, eqMine_refl, eqCrew_refl, eqCrewS_refl]
theorem eqRefugeS_refl (a : List gRefuge) : m_laws_eqRefugeS a a = true := by
  simp only [m_laws_eqRefugeS, bne_self_eq_false, Bool.cond_false]
  rw [LOOP_all (b := m_laws_eqRefugeS_b1 a a) (n := a.length) (bad := fun _ => false) (fun rec k i _ => by simp [m_laws_eqRefugeS_b1, strB, eqInt64S_refl, eqAirway_refl, eqAirwayS_refl, eqMine_refl, eqCrew_refl, eqCrewS_refl, eqRefuge_refl]) (k := fun _ => true) _ 0 (by omega) (by omega) (by omega)]
  simp
theorem markAirwayS_rng {a : List gAirway} {k : Int} (h0 : 0 ≤ k) (h1 : k + 64 * ((a.length : Int)) ≤ 9223372036854770000) : k ≤ (m_laws_markAirwayS a k).1 ∧ (m_laws_markAirwayS a k).1 ≤ k + 64 * ((a.length : Int)) := by
  have h := LOOP_markv (b := m_laws_markAirwayS_b1 a k) (k := fun x => (x.2.1, x.1)) (fun xs kk i => (m_laws_markAirwayS_b1 a k (fun x => (0, x.1)) (fun x => (0, x.1)) (xs, kk, i)).2) (fun kk => IntKind.wrap .i64 ((IntKind.wrap .i64 ((IntKind.wrap .i64 ((IntKind.wrap .i64 ((IntKind.wrap .i64 ((IntKind.wrap .i64 ((IntKind.wrap .i64 (kk + 1)) + 1)) + 1)) + 1)) + 1)) + 1)) + 1))
    (fun rec xs kk i h0 h1 => by simp only [m_laws_markAirwayS_b1, h1, decide_true, Bool.cond_true]) (fun xs kk i => by simp only [m_laws_markAirwayS_b1]; cases decide (i < (xs.length : Int)) <;> simp [put_len]) (fun rec xs kk i h1 => by simp only [m_laws_markAirwayS_b1, h1, decide_false, Bool.cond_false]) (fun kk h0 h1 => by rw [wr64 (n := kk + 1) (by omega), wr64 (n := kk + 1 + 1) (by omega), wr64 (n := kk + 1 + 1 + 1) (by omega), wr64 (n := kk + 1 + 1 + 1 + 1) (by omega), wr64 (n := kk + 1 + 1 + 1 + 1 + 1) (by omega), wr64 (n := kk + 1 + 1 + 1 + 1 + 1 + 1) (by omega), wr64 (n := kk + 1 + 1 + 1 + 1 + 1 + 1 + 1) (by omega)]; omega) (fun _ => rfl) (((a.length : Int) - 0 : Int).toNat + 1) a k 0 h0 (by omega) (by omega) (by omega) (by omega)
  simp only [m_laws_markAirwayS]
  omega
theorem markAirwayS_le {a : List gAirway} {k : Int} (h : k ≤ 9223372036854775807) : (m_laws_markAirwayS a k).1 ≤ 9223372036854775807 := by
  have h' := LOOP_post (b := m_laws_markAirwayS_b1 a k) (k := fun x => (x.2.1, x.1)) (fun x => x.2.1 ≤ 9223372036854775807 ∧ 0 ≤ x.2.2) (fun x => ((x.1.length : Int) - x.2.2).toNat) (fun _ r => r.1 ≤ 9223372036854775807)
    (fun rec x hx ih => by
      simp only [m_laws_markAirwayS_b1]
      by_cases h1 : x.2.2 < (x.1.length : Int)
      · simp only [h1, decide_true, Bool.cond_true]
        refine ih _ ⟨wr64_le, by dsimp only; omega⟩ ?_
        simp only [put_len]; omega
      · simp only [h1, decide_false, Bool.cond_false]; exact hx.1) (((a.length : Int) - 0 : Int).toNat + 1) (a, k, 0) ⟨h, by dsimp only; omega⟩ (by dsimp only; omega)
  simp only [m_laws_markAirwayS]; exact h'
theorem markAirwayS_len {a : List gAirway} {k : Int} : (m_laws_markAirwayS a k).2.length = a.length := by
  have h' := LOOP_post (b := m_laws_markAirwayS_b1 a k) (k := fun x => (x.2.1, x.1)) (fun x => x.1.length = a.length ∧ 0 ≤ x.2.2) (fun x => ((x.1.length : Int) - x.2.2).toNat) (fun _ r => r.2.length = a.length)
    (fun rec x hx ih => by
      simp only [m_laws_markAirwayS_b1]
      by_cases h1 : x.2.2 < (x.1.length : Int)
      · simp only [h1, decide_true, Bool.cond_true]
        refine ih _ ⟨by simp only [put_len]; exact hx.1, by dsimp only; omega⟩ ?_
        simp only [put_len]; omega
      · simp only [h1, decide_false, Bool.cond_false]; exact hx.1) (((a.length : Int) - 0 : Int).toNat + 1) (a, k, 0) ⟨rfl, by dsimp only; omega⟩ (by dsimp only; omega)
  simp only [m_laws_markAirwayS]; exact h'
theorem markMine_rng {a : gMine} {k : Int} (h0 : 0 ≤ k) (h1 : k + 64 * ((a.Airways.length : Int)) ≤ 9223372036854770000) : k ≤ (m_laws_markMine a k).1 ∧ (m_laws_markMine a k).1 ≤ k + 64 * ((a.Airways.length : Int)) := by
  have h_0 := markAirwayS_rng (a := a.Airways) (k := k) (by omega) (by omega)
  simp only [m_laws_markMine]
  omega
theorem markMine_le {a : gMine} {k : Int} (h : k ≤ 9223372036854775807) : (m_laws_markMine a k).1 ≤ 9223372036854775807 := by
  simp only [m_laws_markMine]; exact markAirwayS_le h
theorem markMine_len {a : gMine} {k : Int} : (m_laws_markMine a k).2.length = a.Airways.length := by
  simp only [m_laws_markMine]; exact markAirwayS_len
theorem markInt64S_rng {a : List Int} {k : Int} (h0 : 0 ≤ k) (h1 : k + 64 * ((a.length : Int)) ≤ 9223372036854770000) : k ≤ (m_laws_markInt64S a k).1 ∧ (m_laws_markInt64S a k).1 ≤ k + 64 * ((a.length : Int)) := by
  have h := LOOP_markv (b := m_laws_markInt64S_b1 a k) (k := fun x => (x.2.1, x.1)) (fun xs kk i => (m_laws_markInt64S_b1 a k (fun x => (0, x.1)) (fun x => (0, x.1)) (xs, kk, i)).2) (fun kk => IntKind.wrap .i64 (kk + 1))
    (fun rec xs kk i h0 h1 => by simp only [m_laws_markInt64S_b1, h1, decide_true, Bool.cond_true]) (fun xs kk i => by simp only [m_laws_markInt64S_b1]; cases decide (i < (xs.length : Int)) <;> simp [put_len]) (fun rec xs kk i h1 => by simp only [m_laws_markInt64S_b1, h1, decide_false, Bool.cond_false]) (fun kk h0 h1 => by rw [wr64 (n := kk + 1) (by omega)]; omega) (fun _ => rfl) (((a.length : Int) - 0 : Int).toNat + 1) a k 0 h0 (by omega) (by omega) (by omega) (by omega)
  simp only [m_laws_markInt64S]
  omega
theorem markInt64S_le {a : List Int} {k : Int} (h : k ≤ 9223372036854775807) : (m_laws_markInt64S a k).1 ≤ 9223372036854775807 := by
  have h' := LOOP_post (b := m_laws_markInt64S_b1 a k) (k := fun x => (x.2.1, x.1)) (fun x => x.2.1 ≤ 9223372036854775807 ∧ 0 ≤ x.2.2) (fun x => ((x.1.length : Int) - x.2.2).toNat) (fun _ r => r.1 ≤ 9223372036854775807)
    (fun rec x hx ih => by
      simp only [m_laws_markInt64S_b1]
      by_cases h1 : x.2.2 < (x.1.length : Int)
      · simp only [h1, decide_true, Bool.cond_true]
        refine ih _ ⟨wr64_le, by dsimp only; omega⟩ ?_
        simp only [put_len]; omega
      · simp only [h1, decide_false, Bool.cond_false]; exact hx.1) (((a.length : Int) - 0 : Int).toNat + 1) (a, k, 0) ⟨h, by dsimp only; omega⟩ (by dsimp only; omega)
  simp only [m_laws_markInt64S]; exact h'
theorem markInt64S_len {a : List Int} {k : Int} : (m_laws_markInt64S a k).2.length = a.length := by
  have h' := LOOP_post (b := m_laws_markInt64S_b1 a k) (k := fun x => (x.2.1, x.1)) (fun x => x.1.length = a.length ∧ 0 ≤ x.2.2) (fun x => ((x.1.length : Int) - x.2.2).toNat) (fun _ r => r.2.length = a.length)
    (fun rec x hx ih => by
      simp only [m_laws_markInt64S_b1]
      by_cases h1 : x.2.2 < (x.1.length : Int)
      · simp only [h1, decide_true, Bool.cond_true]
        refine ih _ ⟨by simp only [put_len]; exact hx.1, by dsimp only; omega⟩ ?_
        simp only [put_len]; omega
      · simp only [h1, decide_false, Bool.cond_false]; exact hx.1) (((a.length : Int) - 0 : Int).toNat + 1) (a, k, 0) ⟨rfl, by dsimp only; omega⟩ (by dsimp only; omega)
  simp only [m_laws_markInt64S]; exact h'
theorem markCrewS_rng {a : List gCrew} {k : Int} (h0 : 0 ≤ k) (h1 : k + 64 * ((a.length : Int)) ≤ 9223372036854770000) : k ≤ (m_laws_markCrewS a k).1 ∧ (m_laws_markCrewS a k).1 ≤ k + 64 * ((a.length : Int)) := by
  have h := LOOP_markv (b := m_laws_markCrewS_b1 a k) (k := fun x => (x.2.1, x.1)) (fun xs kk i => (m_laws_markCrewS_b1 a k (fun x => (0, x.1)) (fun x => (0, x.1)) (xs, kk, i)).2) (fun kk => IntKind.wrap .i64 ((IntKind.wrap .i64 ((IntKind.wrap .i64 (kk + 1)) + 1)) + 1))
    (fun rec xs kk i h0 h1 => by simp only [m_laws_markCrewS_b1, h1, decide_true, Bool.cond_true]) (fun xs kk i => by simp only [m_laws_markCrewS_b1]; cases decide (i < (xs.length : Int)) <;> simp [put_len]) (fun rec xs kk i h1 => by simp only [m_laws_markCrewS_b1, h1, decide_false, Bool.cond_false]) (fun kk h0 h1 => by rw [wr64 (n := kk + 1) (by omega), wr64 (n := kk + 1 + 1) (by omega), wr64 (n := kk + 1 + 1 + 1) (by omega)]; omega) (fun _ => rfl) (((a.length : Int) - 0 : Int).toNat + 1) a k 0 h0 (by omega) (by omega) (by omega) (by omega)
  simp only [m_laws_markCrewS]
  omega
theorem markCrewS_le {a : List gCrew} {k : Int} (h : k ≤ 9223372036854775807) : (m_laws_markCrewS a k).1 ≤ 9223372036854775807 := by
  have h' := LOOP_post (b := m_laws_markCrewS_b1 a k) (k := fun x => (x.2.1, x.1)) (fun x => x.2.1 ≤ 9223372036854775807 ∧ 0 ≤ x.2.2) (fun x => ((x.1.length : Int) - x.2.2).toNat) (fun _ r => r.1 ≤ 9223372036854775807)
    (fun rec x hx ih => by
      simp only [m_laws_markCrewS_b1]
      by_cases h1 : x.2.2 < (x.1.length : Int)
      · simp only [h1, decide_true, Bool.cond_true]
        refine ih _ ⟨wr64_le, by dsimp only; omega⟩ ?_
        simp only [put_len]; omega
      · simp only [h1, decide_false, Bool.cond_false]; exact hx.1) (((a.length : Int) - 0 : Int).toNat + 1) (a, k, 0) ⟨h, by dsimp only; omega⟩ (by dsimp only; omega)
  simp only [m_laws_markCrewS]; exact h'
theorem markCrewS_len {a : List gCrew} {k : Int} : (m_laws_markCrewS a k).2.length = a.length := by
  have h' := LOOP_post (b := m_laws_markCrewS_b1 a k) (k := fun x => (x.2.1, x.1)) (fun x => x.1.length = a.length ∧ 0 ≤ x.2.2) (fun x => ((x.1.length : Int) - x.2.2).toNat) (fun _ r => r.2.length = a.length)
    (fun rec x hx ih => by
      simp only [m_laws_markCrewS_b1]
      by_cases h1 : x.2.2 < (x.1.length : Int)
      · simp only [h1, decide_true, Bool.cond_true]
        refine ih _ ⟨by simp only [put_len]; exact hx.1, by dsimp only; omega⟩ ?_
        simp only [put_len]; omega
      · simp only [h1, decide_false, Bool.cond_false]; exact hx.1) (((a.length : Int) - 0 : Int).toNat + 1) (a, k, 0) ⟨rfl, by dsimp only; omega⟩ (by dsimp only; omega)
  simp only [m_laws_markCrewS]; exact h'
theorem markRefugeS_rng {a : List gRefuge} {k : Int} (h0 : 0 ≤ k) (h1 : k + 64 * ((a.length : Int)) ≤ 9223372036854770000) : k ≤ (m_laws_markRefugeS a k).1 ∧ (m_laws_markRefugeS a k).1 ≤ k + 64 * ((a.length : Int)) := by
  have h := LOOP_markv (b := m_laws_markRefugeS_b1 a k) (k := fun x => (x.2.1, x.1)) (fun xs kk i => (m_laws_markRefugeS_b1 a k (fun x => (0, x.1)) (fun x => (0, x.1)) (xs, kk, i)).2) (fun kk => IntKind.wrap .i64 ((IntKind.wrap .i64 ((IntKind.wrap .i64 ((IntKind.wrap .i64 (kk + 1)) + 1)) + 1)) + 1))
    (fun rec xs kk i h0 h1 => by simp only [m_laws_markRefugeS_b1, h1, decide_true, Bool.cond_true]) (fun xs kk i => by simp only [m_laws_markRefugeS_b1]; cases decide (i < (xs.length : Int)) <;> simp [put_len]) (fun rec xs kk i h1 => by simp only [m_laws_markRefugeS_b1, h1, decide_false, Bool.cond_false]) (fun kk h0 h1 => by rw [wr64 (n := kk + 1) (by omega), wr64 (n := kk + 1 + 1) (by omega), wr64 (n := kk + 1 + 1 + 1) (by omega), wr64 (n := kk + 1 + 1 + 1 + 1) (by omega)]; omega) (fun _ => rfl) (((a.length : Int) - 0 : Int).toNat + 1) a k 0 h0 (by omega) (by omega) (by omega) (by omega)
  simp only [m_laws_markRefugeS]
  omega
theorem markRefugeS_le {a : List gRefuge} {k : Int} (h : k ≤ 9223372036854775807) : (m_laws_markRefugeS a k).1 ≤ 9223372036854775807 := by
  have h' := LOOP_post (b := m_laws_markRefugeS_b1 a k) (k := fun x => (x.2.1, x.1)) (fun x => x.2.1 ≤ 9223372036854775807 ∧ 0 ≤ x.2.2) (fun x => ((x.1.length : Int) - x.2.2).toNat) (fun _ r => r.1 ≤ 9223372036854775807)
    (fun rec x hx ih => by
      simp only [m_laws_markRefugeS_b1]
      by_cases h1 : x.2.2 < (x.1.length : Int)
      · simp only [h1, decide_true, Bool.cond_true]
        refine ih _ ⟨wr64_le, by dsimp only; omega⟩ ?_
        simp only [put_len]; omega
      · simp only [h1, decide_false, Bool.cond_false]; exact hx.1) (((a.length : Int) - 0 : Int).toNat + 1) (a, k, 0) ⟨h, by dsimp only; omega⟩ (by dsimp only; omega)
  simp only [m_laws_markRefugeS]; exact h'
theorem markRefugeS_len {a : List gRefuge} {k : Int} : (m_laws_markRefugeS a k).2.length = a.length := by
  have h' := LOOP_post (b := m_laws_markRefugeS_b1 a k) (k := fun x => (x.2.1, x.1)) (fun x => x.1.length = a.length ∧ 0 ≤ x.2.2) (fun x => ((x.1.length : Int) - x.2.2).toNat) (fun _ r => r.2.length = a.length)
    (fun rec x hx ih => by
      simp only [m_laws_markRefugeS_b1]
      by_cases h1 : x.2.2 < (x.1.length : Int)
      · simp only [h1, decide_true, Bool.cond_true]
        refine ih _ ⟨by simp only [put_len]; exact hx.1, by dsimp only; omega⟩ ?_
        simp only [put_len]; omega
      · simp only [h1, decide_false, Bool.cond_false]; exact hx.1) (((a.length : Int) - 0 : Int).toNat + 1) (a, k, 0) ⟨rfl, by dsimp only; omega⟩ (by dsimp only; omega)
  simp only [m_laws_markRefugeS]; exact h'
theorem held_mark_int {a : List Int} (h : a.length ≤ 1048576) : m_laws_heldInt64S (m_laws_markInt64S a 1).2 1 = (m_laws_markInt64S a 1).1 ∧ ¬ (m_laws_markInt64S a 1).1 < 0 := by
  have e : m_laws_markInt64S a 1 = (1 + (a.length : Int), (irange 0 a.length).map (fun j => 1 + j)) :=
    LOOP_marki (b := m_laws_markInt64S_b1 a 1) (k := fun x => (x.2.1, x.1)) (fun rec xs kk i h0 h1 => by simp only [m_laws_markInt64S_b1, h1, decide_true, Bool.cond_true]) (fun rec xs kk i h1 => by simp only [m_laws_markInt64S_b1, h1, decide_false, Bool.cond_false]) (fun _ => rfl) 1 (by omega) (((a.length : Int) - 0 : Int).toNat + 1) a 0 (by omega) (by omega) (by omega) (by omega) (fun j h1 h2 => by omega)
  rw [e]
  refine ⟨?_, by simp only []; omega⟩
  have hl : ((irange 0 a.length).map (fun j => 1 + j)).length = a.length := by rw [List.length_map, irange_len]
  have := LOOP_heldi (b := m_laws_heldInt64S_b1 ((irange 0 a.length).map (fun j => 1 + j)) 1) (k := fun x => x.1) (n := a.length) 1 (by omega) (by omega) (fun rec kk i h0 h1 => by simp only [m_laws_heldInt64S_b1, hl, h1, decide_true, Bool.cond_true]) (fun rec kk i h1 => by simp only [m_laws_heldInt64S_b1, hl, h1, decide_false, Bool.cond_false]) (fun _ => rfl) (((a.length : Int) - 0 : Int).toNat + 1) 0 (by omega) (by omega) (by omega)
  simp only [m_laws_heldInt64S, hl]
  exact this

end Go.Proofs.Ytibbfdojcdkopaa
