/-
  PLAIN LAWS about the models: no program in sight. Conditions: as each theorem states them.
-/
import Derived.Test.YtbflomopgofkgaaExactRankCrewsModels
set_option linter.unusedVariables false
set_option linter.unusedSimpArgs false
set_option linter.unusedSectionVars false
set_option linter.unnecessarySimpa false
namespace Go.Proofs.Ytbflomopgofkgaa
open Go Go.RowKit Go.Proofs Go.Proofs.Ytbflomopgofkgaa.E
/-! ## Sizes, copies, equality: printed by a program of this claim -/
abbrev gDrill.ok (x : gDrill) : Prop := (-9223372036854775808 ≤ x.Day ∧ x.Day ≤ 9223372036854775807) ∧ (x.Crew.length ≤ 9223372036854775807) ∧ (-9223372036854775808 ≤ x.Persons ∧ x.Persons ≤ 9223372036854775807) ∧ (-9223372036854775808 ≤ x.Seconds ∧ x.Seconds ≤ 9223372036854775807) ∧ (-9223372036854775808 ≤ x.Missing ∧ x.Missing ≤ 9223372036854775807)
abbrev gDrill.sz (x : gDrill) : Prop := (x.Crew.length ≤ 1048576)
theorem szDrill_le {a : gDrill} {l : Int} (hs : gDrill.ok a) (h0 : 0 ≤ l) (h1 : l ≤ 1048576) : m_laws_szDrill a l ≤ l ∧ (0 ≤ m_laws_szDrill a l → gDrill.sz a) := by
  have hs' := hs
  unfold gDrill.ok at hs'
  simp only [m_laws_szDrill, gDrill.sz]
  rw [wr64 (n := l - (a.Crew.length : Int)) (by omega)]
  by_cases h_1 : (l - (a.Crew.length : Int)) < 0
  · simp only [h_1, decide_true, Bool.cond_true]; exact ⟨by omega, fun h => absurd h (by omega)⟩
  simp only [h_1, decide_false, Bool.cond_false]
  exact ⟨by omega, fun _ => by omega⟩
theorem szDrill_impA {a : gDrill} {l : Int} (hs : gDrill.ok a) (h0 : 0 ≤ l) (h1 : l ≤ 1048576) (h : 0 ≤ m_laws_szDrill a l) : m_laws_szDrill a l ≤ l := (szDrill_le hs h0 h1).1
theorem szDrill_impB {a : gDrill} {l : Int} (hs : gDrill.ok a) (h0 : 0 ≤ l) (h1 : l ≤ 1048576) (h : 0 ≤ m_laws_szDrill a l) : gDrill.sz a := (szDrill_le hs h0 h1).2 h
theorem szDrillS_le {a : List gDrill} {l : Int} (hs : a.length ≤ 9223372036854775807 ∧ ∀ y ∈ a, gDrill.ok y) (h0 : 0 ≤ l) (h1 : l ≤ 1048576) : m_laws_szDrillS a l ≤ l ∧ (0 ≤ m_laws_szDrillS a l → a.length ≤ 1048576 ∧ ∀ y ∈ a, gDrill.sz y) := by
  simp only [m_laws_szDrillS]
  rw [wr64 (n := l - (a.length : Int)) (by omega)]
  by_cases h : l - (a.length : Int) < 0
  · simp only [h, decide_true, Bool.cond_true]; exact ⟨by omega, fun h => absurd h (by omega)⟩
  simp only [h, decide_false, Bool.cond_false]
  have s := LOOP_szq (b := m_laws_szDrillS_b1 a l) (n := a.length) (f := fun i l => m_laws_szDrill (at' a i) l) (Q := fun i => gDrill.sz (at' a i)) (k := fun x => x.1) (fun rec k x h0 h1 h2 h3 => by simp only [m_laws_szDrillS_b1, h1, decide_true, Bool.cond_true]) (fun rec k x h1 => by simp only [m_laws_szDrillS_b1, h1, decide_false, Bool.cond_false]) (fun i l hi hn h0 h1 => szDrill_le (at_all hs.2 ⟨hi, hn⟩) h0 h1) (fun _ => rfl) (((a.length : Int) - 0 : Int).toNat + 1) (l - a.length) 0 (by omega) (by omega) (by omega) (by omega) (by omega)
  exact ⟨by omega, fun h => ⟨by omega, all_at.2 fun j hj => s.2 h j (by omega) (by omega)⟩⟩
theorem szDrillS_impA {a : List gDrill} {l : Int} (hs : a.length ≤ 9223372036854775807 ∧ ∀ y ∈ a, gDrill.ok y) (h0 : 0 ≤ l) (h1 : l ≤ 1048576) (h : 0 ≤ m_laws_szDrillS a l) : m_laws_szDrillS a l ≤ l := (szDrillS_le hs h0 h1).1
theorem szDrillS_impB {a : List gDrill} {l : Int} (hs : a.length ≤ 9223372036854775807 ∧ ∀ y ∈ a, gDrill.ok y) (h0 : 0 ≤ l) (h1 : l ≤ 1048576) (h : 0 ≤ m_laws_szDrillS a l) : a.length ≤ 1048576 ∧ ∀ y ∈ a, gDrill.sz y := (szDrillS_le hs h0 h1).2 h
theorem toDrill_eq (a : gDrill) : m_laws_toDrill a = a := by simp only [m_laws_toDrill]
theorem toDrillS_eq (a : List gDrill) : m_laws_toDrillS a = a := by
  simp only [m_laws_toDrillS]
  exact LOOP_fill (b := m_laws_toDrillS_b1 a) (fun rec k x => by simp only [m_laws_toDrillS_b1, toDrill_eq]) (fun _ => rfl) _ _ 0 (by simp) (by omega) rfl (by omega)
theorem eqStringS_refl (a : List (List UInt8)) : m_laws_eqStringS a a = true := by
  simp only [m_laws_eqStringS, bne_self_eq_false, Bool.cond_false]
  rw [LOOP_all (b := m_laws_eqStringS_b1 a a) (n := a.length) (bad := fun _ => false) (fun rec k i _ => by simp [m_laws_eqStringS_b1, strB]) (k := fun _ => true) _ 0 (by omega) (by omega) (by omega)]
  simp
theorem eqDrill_refl (a : gDrill) : m_laws_eqDrill a a = true := by simp [m_laws_eqDrill, strB, eqStringS_refl]
theorem eqDrillS_refl (a : List gDrill) : m_laws_eqDrillS a a = true := by
  simp only [m_laws_eqDrillS, bne_self_eq_false, Bool.cond_false]
  rw [LOOP_all (b := m_laws_eqDrillS_b1 a a) (n := a.length) (bad := fun _ => false) (fun rec k i _ => by simp [m_laws_eqDrillS_b1, strB, eqStringS_refl, eqDrill_refl]) (k := fun _ => true) _ 0 (by omega) (by omega) (by omega)]
  simp
theorem markDrillS_rng {a : List gDrill} {k : Int} (h0 : 0 ≤ k) (h1 : k + 64 * ((a.length : Int)) ≤ 9223372036854770000) : k ≤ (m_laws_markDrillS a k).1 ∧ (m_laws_markDrillS a k).1 ≤ k + 64 * ((a.length : Int)) := by
  have h := LOOP_markv (b := m_laws_markDrillS_b1 a k) (k := fun x => (x.2.1, x.1)) (fun xs kk i => (m_laws_markDrillS_b1 a k (fun x => (0, x.1)) (fun x => (0, x.1)) (xs, kk, i)).2) (fun kk => IntKind.wrap .i64 ((IntKind.wrap .i64 ((IntKind.wrap .i64 ((IntKind.wrap .i64 ((IntKind.wrap .i64 (kk + 1)) + 1)) + 1)) + 1)) + 1))
    (fun rec xs kk i h0 h1 => by simp only [m_laws_markDrillS_b1, h1, decide_true, Bool.cond_true]) (fun xs kk i => by simp only [m_laws_markDrillS_b1]; cases decide (i < (xs.length : Int)) <;> simp [put_len]) (fun rec xs kk i h1 => by simp only [m_laws_markDrillS_b1, h1, decide_false, Bool.cond_false]) (fun kk h0 h1 => by rw [wr64 (n := kk + 1) (by omega), wr64 (n := kk + 1 + 1) (by omega), wr64 (n := kk + 1 + 1 + 1) (by omega), wr64 (n := kk + 1 + 1 + 1 + 1) (by omega), wr64 (n := kk + 1 + 1 + 1 + 1 + 1) (by omega)]; omega) (fun _ => rfl) (((a.length : Int) - 0 : Int).toNat + 1) a k 0 h0 (by omega) (by omega) (by omega) (by omega)
  simp only [m_laws_markDrillS]
  omega
theorem markDrillS_le {a : List gDrill} {k : Int} (h : k ≤ 9223372036854775807) : (m_laws_markDrillS a k).1 ≤ 9223372036854775807 := by
  have h' := LOOP_post (b := m_laws_markDrillS_b1 a k) (k := fun x => (x.2.1, x.1)) (fun x => x.2.1 ≤ 9223372036854775807 ∧ 0 ≤ x.2.2) (fun x => ((x.1.length : Int) - x.2.2).toNat) (fun _ r => r.1 ≤ 9223372036854775807)
    (fun rec x hx ih => by
      simp only [m_laws_markDrillS_b1]
      by_cases h1 : x.2.2 < (x.1.length : Int)
      · simp only [h1, decide_true, Bool.cond_true]
        refine ih _ ⟨wr64_le, by dsimp only; omega⟩ ?_
        simp only [put_len]; omega
      · simp only [h1, decide_false, Bool.cond_false]; exact hx.1) (((a.length : Int) - 0 : Int).toNat + 1) (a, k, 0) ⟨h, by dsimp only; omega⟩ (by dsimp only; omega)
  simp only [m_laws_markDrillS]; exact h'
theorem markDrillS_len {a : List gDrill} {k : Int} : (m_laws_markDrillS a k).2.length = a.length := by
  have h' := LOOP_post (b := m_laws_markDrillS_b1 a k) (k := fun x => (x.2.1, x.1)) (fun x => x.1.length = a.length ∧ 0 ≤ x.2.2) (fun x => ((x.1.length : Int) - x.2.2).toNat) (fun _ r => r.2.length = a.length)
    (fun rec x hx ih => by
      simp only [m_laws_markDrillS_b1]
      by_cases h1 : x.2.2 < (x.1.length : Int)
      · simp only [h1, decide_true, Bool.cond_true]
        refine ih _ ⟨by simp only [put_len]; exact hx.1, by dsimp only; omega⟩ ?_
        simp only [put_len]; omega
      · simp only [h1, decide_false, Bool.cond_false]; exact hx.1) (((a.length : Int) - 0 : Int).toNat + 1) (a, k, 0) ⟨rfl, by dsimp only; omega⟩ (by dsimp only; omega)
  simp only [m_laws_markDrillS]; exact h'
theorem markStringS_rng {a : List (List UInt8)} {k : Int} (h0 : 0 ≤ k) (h1 : k + 64 * ((a.length : Int)) ≤ 9223372036854770000) : k ≤ (m_laws_markStringS a k).1 ∧ (m_laws_markStringS a k).1 ≤ k + 64 * ((a.length : Int)) := by
  have h := LOOP_markv (b := m_laws_markStringS_b1 a k) (k := fun x => (x.2.1, x.1)) (fun xs kk i => (m_laws_markStringS_b1 a k (fun x => (0, x.1)) (fun x => (0, x.1)) (xs, kk, i)).2) (fun kk => IntKind.wrap .i64 (kk + 1))
    (fun rec xs kk i h0 h1 => by simp only [m_laws_markStringS_b1, h1, decide_true, Bool.cond_true]) (fun xs kk i => by simp only [m_laws_markStringS_b1]; cases decide (i < (xs.length : Int)) <;> simp [put_len]) (fun rec xs kk i h1 => by simp only [m_laws_markStringS_b1, h1, decide_false, Bool.cond_false]) (fun kk h0 h1 => by rw [wr64 (n := kk + 1) (by omega)]; omega) (fun _ => rfl) (((a.length : Int) - 0 : Int).toNat + 1) a k 0 h0 (by omega) (by omega) (by omega) (by omega)
  simp only [m_laws_markStringS]
  omega
theorem markStringS_le {a : List (List UInt8)} {k : Int} (h : k ≤ 9223372036854775807) : (m_laws_markStringS a k).1 ≤ 9223372036854775807 := by
  have h' := LOOP_post (b := m_laws_markStringS_b1 a k) (k := fun x => (x.2.1, x.1)) (fun x => x.2.1 ≤ 9223372036854775807 ∧ 0 ≤ x.2.2) (fun x => ((x.1.length : Int) - x.2.2).toNat) (fun _ r => r.1 ≤ 9223372036854775807)
    (fun rec x hx ih => by
      simp only [m_laws_markStringS_b1]
      by_cases h1 : x.2.2 < (x.1.length : Int)
      · simp only [h1, decide_true, Bool.cond_true]
        refine ih _ ⟨wr64_le, by dsimp only; omega⟩ ?_
        simp only [put_len]; omega
      · simp only [h1, decide_false, Bool.cond_false]; exact hx.1) (((a.length : Int) - 0 : Int).toNat + 1) (a, k, 0) ⟨h, by dsimp only; omega⟩ (by dsimp only; omega)
  simp only [m_laws_markStringS]; exact h'
theorem markStringS_len {a : List (List UInt8)} {k : Int} : (m_laws_markStringS a k).2.length = a.length := by
  have h' := LOOP_post (b := m_laws_markStringS_b1 a k) (k := fun x => (x.2.1, x.1)) (fun x => x.1.length = a.length ∧ 0 ≤ x.2.2) (fun x => ((x.1.length : Int) - x.2.2).toNat) (fun _ r => r.2.length = a.length)
    (fun rec x hx ih => by
      simp only [m_laws_markStringS_b1]
      by_cases h1 : x.2.2 < (x.1.length : Int)
      · simp only [h1, decide_true, Bool.cond_true]
        refine ih _ ⟨by simp only [put_len]; exact hx.1, by dsimp only; omega⟩ ?_
        simp only [put_len]; omega
      · simp only [h1, decide_false, Bool.cond_false]; exact hx.1) (((a.length : Int) - 0 : Int).toNat + 1) (a, k, 0) ⟨rfl, by dsimp only; omega⟩ (by dsimp only; omega)
  simp only [m_laws_markStringS]; exact h'

end Go.Proofs.Ytbflomopgofkgaa
