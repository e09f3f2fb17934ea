/-
  PLAIN LAWS about the models: no program in sight. Conditions: as each theorem states them.
-/
import Derived.Test.YtdkkcemlnjlebaaExactMergeVersionsPlain2
set_option linter.unusedVariables false
set_option linter.unusedSimpArgs false
set_option linter.unusedSectionVars false
set_option linter.unnecessarySimpa false
namespace Go.Proofs.Ytdkkcemlnjlebaa
open Go Go.RowKit Go.Proofs Go.Proofs.Ytdkkcemlnjlebaa.E
/-! ## Marks on versions -/
theorem mark_set_at (a : List gSetting) (k0 : Int) (h0 : 0 ≤ k0) (hB : k0 + 2 * (a.length : Int) ≤ 9223372036854770000) : (m_laws_markSettingS a k0).1 = k0 + 2 * (a.length : Int) ∧ m_laws_heldSettingS (m_laws_markSettingS a k0).2 k0 = k0 + 2 * (a.length : Int) := by
  have e0 := LOOP_markt (f := fun kk => gSetting.mk (m_laws_markText kk) (kk + 1)) (s := 2) (b := m_laws_markSettingS_b1 a k0) (k := fun x => (x.2.1, x.1)) (by omega) k0 h0 (fun rec xs kk i h0 h1 h2 h3 => by simp only [m_laws_markSettingS_b1, h1, decide_true, Bool.cond_true]; rw [wr64 (n := kk + 1) (by omega), wr64 (by omega), show kk + 1 + 1 = kk + 2 by omega]) (fun rec xs kk i h1 => by simp only [m_laws_markSettingS_b1, h1, decide_false, Bool.cond_false]) (fun _ => rfl) (((a.length : Int) - 0 : Int).toNat + 1) a 0 (by omega) (by omega) (by omega) (by omega) (fun j h1 h2 => by omega)
  rw [show k0 + 2 * 0 = k0 by omega] at e0
  have e : m_laws_markSettingS a k0 = (k0 + 2 * (a.length : Int), (irange 0 a.length).map (fun j => gSetting.mk (m_laws_markText (k0 + 2 * j)) (k0 + 2 * j + 1))) := e0
  rw [e]
  refine ⟨rfl, ?_⟩
  generalize hL : (irange 0 a.length).map (fun j => gSetting.mk (m_laws_markText (k0 + 2 * j)) (k0 + 2 * j + 1)) = L
  have hl : L.length = a.length := by rw [← hL, List.length_map, irange_len]
  have := LOOP_heldt (f := fun kk => gSetting.mk (m_laws_markText kk) (kk + 1)) (s := 2) (L := L) (b := m_laws_heldSettingS_b1 L k0) (k := fun x => x.1) (n := a.length) (by omega) k0 h0 (by omega) hL.symm (fun rec kk i h0 h1 h2 h3 h4 => by simp only [m_laws_heldSettingS_b1, hl, h1, decide_true, Bool.cond_true, h4, strB_neq_self, Bool.cond_false]; rw [wr64 (n := kk + 1) (by omega), wr64 (by omega), show kk + 1 + 1 = kk + 2 by omega]; simp) (fun rec kk i h1 => by simp only [m_laws_heldSettingS_b1, hl, h1, decide_false, Bool.cond_false]) (fun _ => rfl) (((a.length : Int) - 0 : Int).toNat + 1) 0 (by omega) (by omega) (by omega)
  rw [show k0 + 2 * 0 = k0 by omega] at this
  simp only [m_laws_heldSettingS, hl]
  exact this
def mkV (e : gVersion) (kk : Int) : Int × gVersion :=
  ((m_laws_markSettingS e.State (IntKind.wrap .i64 ((IntKind.wrap .i64 ((IntKind.wrap .i64 (kk + 1)) + 1)) + 1))).1, gVersion.mk kk (IntKind.wrap .i64 (kk + 1)) (m_laws_markText (IntKind.wrap .i64 ((IntKind.wrap .i64 (kk + 1)) + 1))) (m_laws_markSettingS e.State (IntKind.wrap .i64 ((IntKind.wrap .i64 ((IntKind.wrap .i64 (kk + 1)) + 1)) + 1))).2)
def hlV (e : gVersion) (kk : Int) : Int :=
  bif e.Number != kk then (-1) else bif e.Parent != (IntKind.wrap .i64 (kk + 1)) then (-1) else bif strB .neq e.Memo (m_laws_markText (IntKind.wrap .i64 ((IntKind.wrap .i64 (kk + 1)) + 1))) then (-1) else m_laws_heldSettingS e.State (IntKind.wrap .i64 ((IntKind.wrap .i64 ((IntKind.wrap .i64 (kk + 1)) + 1)) + 1))
theorem mark_v_at (e : gVersion) (kk : Int) (h0 : 0 ≤ kk) (hB : kk + ((3 + 2 * e.State.length : Nat) : Int) ≤ 9223372036854770000) : (mkV e kk).1 = kk + ((3 + 2 * e.State.length : Nat) : Int) ∧ hlV (mkV e kk).2 kk = kk + ((3 + 2 * e.State.length : Nat) : Int) := by
  have w1 : IntKind.wrap .i64 (kk + 1) = kk + 1 := wr64 (by omega)
  have w2 : IntKind.wrap .i64 (kk + 1 + 1) = kk + 2 := by rw [wr64 (by omega)]; omega
  have w3 : IntKind.wrap .i64 (kk + 2 + 1) = kk + 3 := by rw [wr64 (by omega)]; omega
  have h := mark_set_at e.State (kk + 3) (by omega) (by omega)
  simp only [mkV, hlV, w1, w2, w3, bne_self_eq_false, strB_neq_self, Bool.cond_false]
  rw [h.1, h.2]
  omega
theorem mark_versions {a : List gVersion} {k : Int} (hk : 0 ≤ k ∧ k ≤ 1000) (h : a.length ≤ 1048576) (h2 : ∀ e ∈ a, e.State.length ≤ 1048576) : m_laws_heldVersionS (m_laws_markVersionS a k).2 k = (m_laws_markVersionS a k).1 ∧ ¬ (m_laws_markVersionS a k).1 < 0 := by
  have e : m_laws_markVersionS a k = markL mkV a k := by
    simp only [m_laws_markVersionS]
    rw [LOOP_markN (mk := mkV) (b := m_laws_markVersionS_b1 a k) (fun rec xs kk i h0 h1 => by simp only [m_laws_markVersionS_b1, h1, decide_true, Bool.cond_true, mkV]) (fun rec xs kk i h1 => by simp only [m_laws_markVersionS_b1, h1, decide_false, Bool.cond_false]) (fun _ => rfl) _ a k 0 (by omega) (by omega) (by omega)]
    simp
  have e2 : ∀ L : List gVersion, m_laws_heldVersionS L k = heldL hlV L k := fun L => by
    simp only [m_laws_heldVersionS]
    rw [LOOP_heldN (held := hlV) (L := L) (b := m_laws_heldVersionS_b1 L k) (fun rec kk i h0 h1 => by
      simp only [m_laws_heldVersionS_b1, h1, decide_true, Bool.cond_true, hlV]
      by_cases c1 : ((at' L i).Number != kk) = true
      · simp only [c1, Bool.cond_true]; rfl
      simp only [Bool.not_eq_true] at c1
      simp only [c1, Bool.cond_false]
      by_cases c2 : ((at' L i).Parent != IntKind.wrap .i64 (kk + 1)) = true
      · simp only [c2, Bool.cond_true]; rfl
      simp only [Bool.not_eq_true] at c2
      simp only [c2, Bool.cond_false]
      by_cases c3 : strB .neq (at' L i).Memo (m_laws_markText (IntKind.wrap .i64 (IntKind.wrap .i64 (kk + 1) + 1))) = true
      · simp only [c3, Bool.cond_true]; rfl
      simp only [Bool.not_eq_true] at c3
      simp only [c3, Bool.cond_false]) (fun rec kk i h1 => by simp only [m_laws_heldVersionS_b1, h1, decide_false, Bool.cond_false]) (fun _ => rfl) _ k 0 (by omega) (by omega) (by omega)]
    simp
  have hs := sum_le (l := a) (sz := fun e : gVersion => 3 + 2 * e.State.length) (c := 3 + 2 * 1048576) fun x hx => by have := h2 x hx; omega
  have hs2 : a.length * (3 + 2 * 1048576) ≤ 1048576 * (3 + 2 * 1048576) := Nat.mul_le_mul_right _ h
  have := held_markL (mk := mkV) (held := hlV) (sz := fun e : gVersion => 3 + 2 * e.State.length) (B := 9223372036854770000) (Q := fun _ => True) (fun e kk _ h0 hB => mark_v_at e kk h0 hB) a k (fun _ _ => trivial) hk.1 (by omega)
  rw [e, e2, this.1, this.2]
  exact ⟨rfl, by omega⟩
theorem held_set_le {a : List gSetting} {k : Int} (h : k ≤ 9223372036854775807) : m_laws_heldSettingS a k ≤ 9223372036854775807 := by
  have h' := LOOP_post (b := m_laws_heldSettingS_b1 a k) (k := fun x => x.1) (fun x => x.1 ≤ 9223372036854775807 ∧ 0 ≤ x.2) (fun x => ((a.length : Int) - x.2).toNat) (fun _ r => r ≤ 9223372036854775807)
    (fun rec x hx ih => by
      simp only [m_laws_heldSettingS_b1]
      by_cases h1 : x.2 < (a.length : Int)
      · simp only [h1, decide_true, Bool.cond_true]
        cases strB .neq (at' a x.2).Name (m_laws_markText x.1) with
        | true => simp
        | false =>
          simp only [Bool.cond_false]
          cases ((at' a x.2).Value != IntKind.wrap .i64 (x.1 + 1)) with
          | true => simp
          | false =>
            simp only [Bool.cond_false]
            exact ih _ ⟨wr64_le, by dsimp only; omega⟩ (by dsimp only; omega)
      · simp only [h1, decide_false, Bool.cond_false]; exact hx.1) (((a.length : Int) - 0 : Int).toNat + 1) (k, 0) ⟨h, by dsimp only; omega⟩ (by dsimp only; omega)
  simp only [m_laws_heldSettingS]; exact h'

end Go.Proofs.Ytdkkcemlnjlebaa
