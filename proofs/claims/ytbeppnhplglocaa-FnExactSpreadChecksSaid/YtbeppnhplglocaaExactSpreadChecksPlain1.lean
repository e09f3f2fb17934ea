/-
  PLAIN LAWS about the models: no program in sight. Conditions: as each theorem states them.
-/
import Derived.Test.YtbeppnhplglocaaExactSpreadChecksModels
set_option linter.unusedVariables false
set_option linter.unusedSimpArgs false
set_option linter.unusedSectionVars false
set_option linter.unnecessarySimpa false
namespace Go.Proofs.Ytbeppnhplglocaa
open Go Go.RowKit Go.Proofs Go.Proofs.Ytbeppnhplglocaa.E
/-! ## Sizes, copies, equality: printed by a program of this claim -/
abbrev gCheck.ok (x : gCheck) : Prop := (x.Id.length ≤ 9223372036854775807) ∧ (-9223372036854775808 ≤ x.Every ∧ x.Every ≤ 9223372036854775807) ∧ (-9223372036854775808 ≤ x.Last ∧ x.Last ≤ 9223372036854775807)
abbrev gCheck.sz (x : gCheck) : Prop := (x.Id.length ≤ 1048576)
theorem szCheck_le {a : gCheck} {l : Int} (hs : gCheck.ok a) (h0 : 0 ≤ l) (h1 : l ≤ 1048576) : m_laws_szCheck a l ≤ l ∧ (0 ≤ m_laws_szCheck a l → gCheck.sz a) := by
  have hs' := hs
  unfold gCheck.ok at hs'
  simp only [m_laws_szCheck, gCheck.sz]
  rw [wr64 (n := l - (a.Id.length : Int)) (by omega)]
  by_cases h_1 : (l - (a.Id.length : Int)) < 0
  · simp only [h_1, decide_true, Bool.cond_true]; exact ⟨by omega, fun h => absurd h (by omega)⟩
  simp only [h_1, decide_false, Bool.cond_false]
  exact ⟨by omega, fun _ => by omega⟩
theorem szCheck_impA {a : gCheck} {l : Int} (hs : gCheck.ok a) (h0 : 0 ≤ l) (h1 : l ≤ 1048576) (h : 0 ≤ m_laws_szCheck a l) : m_laws_szCheck a l ≤ l := (szCheck_le hs h0 h1).1
theorem szCheck_impB {a : gCheck} {l : Int} (hs : gCheck.ok a) (h0 : 0 ≤ l) (h1 : l ≤ 1048576) (h : 0 ≤ m_laws_szCheck a l) : gCheck.sz a := (szCheck_le hs h0 h1).2 h
theorem szCheckS_le {a : List gCheck} {l : Int} (hs : a.length ≤ 9223372036854775807 ∧ ∀ y ∈ a, gCheck.ok y) (h0 : 0 ≤ l) (h1 : l ≤ 1048576) : m_laws_szCheckS a l ≤ l ∧ (0 ≤ m_laws_szCheckS a l → a.length ≤ 1048576 ∧ ∀ y ∈ a, gCheck.sz y) := by
  simp only [m_laws_szCheckS]
  rw [wr64 (n := l - (a.length : Int)) (by omega)]
  by_cases h : l - (a.length : Int) < 0
  · simp only [h, decide_true, Bool.cond_true]; exact ⟨by omega, fun h => absurd h (by omega)⟩
  simp only [h, decide_false, Bool.cond_false]
  have s := LOOP_szq (b := m_laws_szCheckS_b1 a l) (n := a.length) (f := fun i l => m_laws_szCheck (at' a i) l) (Q := fun i => gCheck.sz (at' a i)) (k := fun x => x.1) (fun rec k x h0 h1 h2 h3 => by simp only [m_laws_szCheckS_b1, h1, decide_true, Bool.cond_true]) (fun rec k x h1 => by simp only [m_laws_szCheckS_b1, h1, decide_false, Bool.cond_false]) (fun i l hi hn h0 h1 => szCheck_le (at_all hs.2 ⟨hi, hn⟩) h0 h1) (fun _ => rfl) (((a.length : Int) - 0 : Int).toNat + 1) (l - a.length) 0 (by omega) (by omega) (by omega) (by omega) (by omega)
  exact ⟨by omega, fun h => ⟨by omega, all_at.2 fun j hj => s.2 h j (by omega) (by omega)⟩⟩
theorem szCheckS_impA {a : List gCheck} {l : Int} (hs : a.length ≤ 9223372036854775807 ∧ ∀ y ∈ a, gCheck.ok y) (h0 : 0 ≤ l) (h1 : l ≤ 1048576) (h : 0 ≤ m_laws_szCheckS a l) : m_laws_szCheckS a l ≤ l := (szCheckS_le hs h0 h1).1
theorem szCheckS_impB {a : List gCheck} {l : Int} (hs : a.length ≤ 9223372036854775807 ∧ ∀ y ∈ a, gCheck.ok y) (h0 : 0 ≤ l) (h1 : l ≤ 1048576) (h : 0 ≤ m_laws_szCheckS a l) : a.length ≤ 1048576 ∧ ∀ y ∈ a, gCheck.sz y := (szCheckS_le hs h0 h1).2 h
theorem toCheck_eq (a : gCheck) : m_laws_toCheck a = a := by simp only [m_laws_toCheck]
theorem toCheckS_eq (a : List gCheck) : m_laws_toCheckS a = a := by
  simp only [m_laws_toCheckS]
  exact LOOP_fill (b := m_laws_toCheckS_b1 a) (fun rec k x => by simp only [m_laws_toCheckS_b1, toCheck_eq]) (fun _ => rfl) _ _ 0 (by simp) (by omega) rfl (by omega)
theorem eqInt64S_refl (a : List Int) : m_laws_eqInt64S a a = true := by
  simp only [m_laws_eqInt64S, bne_self_eq_false, Bool.cond_false]
  rw [LOOP_all (b := m_laws_eqInt64S_b1 a a) (n := a.length) (bad := fun _ => false) (fun rec k i _ => by simp [m_laws_eqInt64S_b1, strB]) (k := fun _ => true) _ 0 (by omega) (by omega) (by omega)]
  simp
theorem eqCheck_refl (a : gCheck) : m_laws_eqCheck a a = true := by simp [m_laws_eqCheck, strB, eqInt64S_refl]
theorem eqCheckS_refl (a : List gCheck) : m_laws_eqCheckS a a = true := by
  simp only [m_laws_eqCheckS, bne_self_eq_false, Bool.cond_false]
  rw [LOOP_all (b := m_laws_eqCheckS_b1 a a) (n := a.length) (bad := fun _ => false) (fun rec k i _ => by simp [m_laws_eqCheckS_b1, strB, eqInt64S_refl, eqCheck_refl]) (k := fun _ => true) _ 0 (by omega) (by omega) (by omega)]
  simp
theorem markCheckS_rng {a : List gCheck} {k : Int} (h0 : 0 ≤ k) (h1 : k + 64 * ((a.length : Int)) ≤ 9223372036854770000) : k ≤ (m_laws_markCheckS a k).1 ∧ (m_laws_markCheckS a k).1 ≤ k + 64 * ((a.length : Int)) := by
  have h := LOOP_markv (b := m_laws_markCheckS_b1 a k) (k := fun x => (x.2.1, x.1)) (fun xs kk i => (m_laws_markCheckS_b1 a k (fun x => (0, x.1)) (fun x => (0, x.1)) (xs, kk, i)).2) (fun kk => IntKind.wrap .i64 ((IntKind.wrap .i64 ((IntKind.wrap .i64 (kk + 1)) + 1)) + 1))
    (fun rec xs kk i h0 h1 => by simp only [m_laws_markCheckS_b1, h1, decide_true, Bool.cond_true]) (fun xs kk i => by simp only [m_laws_markCheckS_b1]; cases decide (i < (xs.length : Int)) <;> simp [put_len]) (fun rec xs kk i h1 => by simp only [m_laws_markCheckS_b1, h1, decide_false, Bool.cond_false]) (fun kk h0 h1 => by rw [wr64 (n := kk + 1) (by omega), wr64 (n := kk + 1 + 1) (by omega), wr64 (n := kk + 1 + 1 + 1) (by omega)]; omega) (fun _ => rfl) (((a.length : Int) - 0 : Int).toNat + 1) a k 0 h0 (by omega) (by omega) (by omega) (by omega)
  simp only [m_laws_markCheckS]
  omega
theorem markCheckS_le {a : List gCheck} {k : Int} (h : k ≤ 9223372036854775807) : (m_laws_markCheckS a k).1 ≤ 9223372036854775807 := by
  have h' := LOOP_post (b := m_laws_markCheckS_b1 a k) (k := fun x => (x.2.1, x.1)) (fun x => x.2.1 ≤ 9223372036854775807 ∧ 0 ≤ x.2.2) (fun x => ((x.1.length : Int) - x.2.2).toNat) (fun _ r => r.1 ≤ 9223372036854775807)
    (fun rec x hx ih => by
      simp only [m_laws_markCheckS_b1]
      by_cases h1 : x.2.2 < (x.1.length : Int)
      · simp only [h1, decide_true, Bool.cond_true]
        refine ih _ ⟨wr64_le, by dsimp only; omega⟩ ?_
        simp only [put_len]; omega
      · simp only [h1, decide_false, Bool.cond_false]; exact hx.1) (((a.length : Int) - 0 : Int).toNat + 1) (a, k, 0) ⟨h, by dsimp only; omega⟩ (by dsimp only; omega)
  simp only [m_laws_markCheckS]; exact h'
theorem markCheckS_len {a : List gCheck} {k : Int} : (m_laws_markCheckS a k).2.length = a.length := by
  have h' := LOOP_post (b := m_laws_markCheckS_b1 a k) (k := fun x => (x.2.1, x.1)) (fun x => x.1.length = a.length ∧ 0 ≤ x.2.2) (fun x => ((x.1.length : Int) - x.2.2).toNat) (fun _ r => r.2.length = a.length)
    (fun rec x hx ih => by
      simp only [m_laws_markCheckS_b1]
      by_cases h1 : x.2.2 < (x.1.length : Int)
      · simp only [h1, decide_true, Bool.cond_true]
        refine ih _ ⟨by simp only [put_len]; exact hx.1, by dsimp only; omega⟩ ?_
        simp only [put_len]; omega
      · simp only [h1, decide_false, Bool.cond_false]; exact hx.1) (((a.length : Int) - 0 : Int).toNat + 1) (a, k, 0) ⟨rfl, by dsimp only; omega⟩ (by dsimp only; omega)
  simp only [m_laws_markCheckS]; exact h'
theorem markInt64S_rng {a : List Int} {k : Int} (h0 : 0 ≤ k) (h1 : k + 64 * ((a.length : Int)) ≤ 9223372036854770000) : k ≤ (m_laws_markInt64S a k).1 ∧ (m_laws_markInt64S a k).1 ≤ k + 64 * ((a.length : Int)) := by
  have h := LOOP_markv (b := m_laws_markInt64S_b1 a k) (k := fun x => (x.2.1, x.1)) (fun xs kk i => (m_laws_markInt64S_b1 a k (fun x => (0, x.1)) (fun x => (0, x.1)) (xs, kk, i)).2) (fun kk => IntKind.wrap .i64 (kk + 1))
    (fun rec xs kk i h0 h1 => by simp only [m_laws_markInt64S_b1, h1, decide_true, Bool.cond_true]) (fun xs kk i => by simp only [m_laws_markInt64S_b1]; cases decide (i < (xs.length : Int)) <;> simp [put_len]) (fun rec xs kk i h1 => by simp only [m_laws_markInt64S_b1, h1, decide_false, Bool.cond_false]) (fun kk h0 h1 => by rw [wr64 (n := kk + 1) (by omega)]; omega) (fun _ => rfl) (((a.length : Int) - 0 : Int).toNat + 1) a k 0 h0 (by omega) (by omega) (by omega) (by omega)
  simp only [m_laws_markInt64S]
  omega
theorem markInt64S_le {a : List Int} {k : Int} (h : k ≤ 9223372036854775807) : (m_laws_markInt64S a k).1 ≤ 9223372036854775807 := by
  have h' := LOOP_post (b := m_laws_markInt64S_b1 a k) (k := fun x => (x.2.1, x.1)) (fun x => x.2.1 ≤ 9223372036854775807 ∧ 0 ≤ x.2.2) (fun x => ((x.1.length : Int) - x.2.2).toNat) (fun _ r => r.1 ≤ 9223372036854775807)
    (fun rec x hx ih => by
      simp only [m_laws_markInt64S_b1]
      by_cases h1 : x.2.2 < (x.1.length : Int)
      · simp only [h1, decide_true, Bool.cond_true]
        refine ih _ ⟨wr64_le, by dsimp only; omega⟩ ?_
        simp only [put_len]; omega
      · simp only [h1, decide_false, Bool.cond_false]; exact hx.1) (((a.length : Int) - 0 : Int).toNat + 1) (a, k, 0) ⟨h, by dsimp only; omega⟩ (by dsimp only; omega)
  simp only [m_laws_markInt64S]; exact h'
theorem markInt64S_len {a : List Int} {k : Int} : (m_laws_markInt64S a k).2.length = a.length := by
  have h' := LOOP_post (b := m_laws_markInt64S_b1 a k) (k := fun x => (x.2.1, x.1)) (fun x => x.1.length = a.length ∧ 0 ≤ x.2.2) (fun x => ((x.1.length : Int) - x.2.2).toNat) (fun _ r => r.2.length = a.length)
    (fun rec x hx ih => by
      simp only [m_laws_markInt64S_b1]
      by_cases h1 : x.2.2 < (x.1.length : Int)
      · simp only [h1, decide_true, Bool.cond_true]
        refine ih _ ⟨by simp only [put_len]; exact hx.1, by dsimp only; omega⟩ ?_
        simp only [put_len]; omega
      · simp only [h1, decide_false, Bool.cond_false]; exact hx.1) (((a.length : Int) - 0 : Int).toNat + 1) (a, k, 0) ⟨rfl, by dsimp only; omega⟩ (by dsimp only; omega)
  simp only [m_laws_markInt64S]; exact h'
theorem held_mark_int {a : List Int} (h : a.length ≤ 1048576) : m_laws_heldInt64S (m_laws_markInt64S a 1).2 1 = (m_laws_markInt64S a 1).1 ∧ ¬ (m_laws_markInt64S a 1).1 < 0 := by
  have e : m_laws_markInt64S a 1 = (1 + (a.length : Int), (irange 0 a.length).map (fun j => 1 + j)) :=
    LOOP_marki (b := m_laws_markInt64S_b1 a 1) (k := fun x => (x.2.1, x.1)) (fun rec xs kk i h0 h1 => by simp only [m_laws_markInt64S_b1, h1, decide_true, Bool.cond_true]) (fun rec xs kk i h1 => by simp only [m_laws_markInt64S_b1, h1, decide_false, Bool.cond_false]) (fun _ => rfl) 1 (by omega) (((a.length : Int) - 0 : Int).toNat + 1) a 0 (by omega) (by omega) (by omega) (by omega) (fun j h1 h2 => by omega)
  rw [e]
  refine ⟨?_, by simp only []; omega⟩
  have hl : ((irange 0 a.length).map (fun j => 1 + j)).length = a.length := by rw [List.length_map, irange_len]
  have := LOOP_heldi (b := m_laws_heldInt64S_b1 ((irange 0 a.length).map (fun j => 1 + j)) 1) (k := fun x => x.1) (n := a.length) 1 (by omega) (by omega) (fun rec kk i h0 h1 => by simp only [m_laws_heldInt64S_b1, hl, h1, decide_true, Bool.cond_true]) (fun rec kk i h1 => by simp only [m_laws_heldInt64S_b1, hl, h1, decide_false, Bool.cond_false]) (fun _ => rfl) (((a.length : Int) - 0 : Int).toNat + 1) 0 (by omega) (by omega) (by omega)
  simp only [m_laws_heldInt64S, hl]
  exact this

end Go.Proofs.Ytbeppnhplglocaa
