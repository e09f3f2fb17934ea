/-
  PLAIN LAWS about the models: no program in sight. Conditions: as each theorem states them.
-/
import Derived.Test.YtbflomopgofkgaaExactRankCrewsPlain7
set_option linter.unusedVariables false
set_option linter.unusedSimpArgs false
set_option linter.unusedSectionVars false
set_option linter.unnecessarySimpa false
namespace Go.Proofs.Ytbflomopgofkgaa
open Go Go.RowKit Go.Proofs Go.Proofs.Ytbflomopgofkgaa.E
/-! ## Marks on texts -/
theorem LOOP_marks {f : Int → List UInt8} {b : (List (List UInt8) × Int × Int → Int × List (List UInt8)) → (List (List UInt8) × Int × Int → Int × List (List UInt8)) → List (List UInt8) × Int × Int → Int × List (List UInt8)} {k : List (List UInt8) × Int × Int → Int × List (List UInt8)}
    (hb : ∀ rec xs kk i, 0 ≤ i → i < (xs.length : Int) → b rec k (xs, kk, i) = rec (put' xs i (f kk), IntKind.wrap .i64 (kk + 1), i + 1)) (he : ∀ rec xs kk i, ¬ i < (xs.length : Int) → b rec k (xs, kk, i) = k (xs, kk, i)) (hk : ∀ x, k x = (x.2.1, x.1)) (k0 : Int) (h0 : 0 ≤ k0) :
    ∀ (fuel : Nat) (xs : List (List UInt8)) (i : Int), 0 ≤ i → i ≤ xs.length → k0 + xs.length ≤ 9223372036854770000 → ((xs.length : Int) - i).toNat < fuel → (∀ j : Int, 0 ≤ j → j < i → at' xs j = f (k0 + j)) →
      LOOP b k fuel (xs, k0 + i, i) = (k0 + xs.length, (irange 0 xs.length).map (fun j => f (k0 + j)))
  | 0, _, _, _, _, _, h, _ => by omega
  | m + 1, xs, i, h1, h2, h3, h4, h5 => by
    simp only [LOOP]
    by_cases hi : i < (xs.length : Int)
    · rw [hb _ _ _ _ h1 hi, wr64 (by omega), show k0 + i + 1 = k0 + (i + 1) by omega]
      have hl : (put' xs i (f (k0 + i))).length = xs.length := put_len
      rw [LOOP_marks hb he hk k0 h0 m _ (i + 1) (by omega) (by omega) (by omega) (by omega) ?_, hl]
      intro j hj1 hj2
      by_cases e : j = i
      · subst e; exact put_at ⟨hj1, hi⟩
      · rw [put_at_ne h1 hj1 (fun h => e h.symm)]; exact h5 j hj1 (by omega)
    · have : i = xs.length := by omega
      subst this
      rw [he _ _ _ _ hi, hk]
      exact Prod.ext rfl (list_eq_irange rfl h5)
theorem LOOP_helds {f : Int → List UInt8} {b : (Int × Int → Int) → (Int × Int → Int) → Int × Int → Int} {k : Int × Int → Int} {n : Nat} (k0 : Int) (h0 : 0 ≤ k0) (hn : k0 + n ≤ 9223372036854770000)
    (hb : ∀ rec kk i, 0 ≤ i → i < (n : Int) → b rec k (kk, i) = bif strB .neq (at' ((irange 0 n).map (fun j => f (k0 + j))) i) (f kk) then -1 else rec (IntKind.wrap .i64 (kk + 1), i + 1)) (he : ∀ rec kk i, ¬ i < (n : Int) → b rec k (kk, i) = k (kk, i)) (hk : ∀ x, k x = x.1) :
    ∀ (fuel : Nat) (i : Int), 0 ≤ i → i ≤ n → ((n : Int) - i).toNat < fuel → LOOP b k fuel (k0 + i, i) = k0 + n
  | 0, _, _, _, h => by omega
  | m + 1, i, h1, h2, h4 => by
    simp only [LOOP]
    by_cases hi : i < (n : Int)
    · rw [hb _ _ _ h1 hi, at_irange0 h1 hi, strB_neq_self]
      simp only [cond_false]
      rw [wr64 (by omega), show k0 + i + 1 = k0 + (i + 1) by omega]
      exact LOOP_helds k0 h0 hn hb he hk m (i + 1) (by omega) (by omega) (by omega)
    · have : i = n := by omega
      subst this
      rw [he _ _ _ hi, hk]
theorem held_mark_str {a : List (List UInt8)} (h : a.length ≤ 1048576) : m_laws_heldStringS (m_laws_markStringS a 1).2 1 = (m_laws_markStringS a 1).1 ∧ ¬ (m_laws_markStringS a 1).1 < 0 := by
  have e : m_laws_markStringS a 1 = (1 + (a.length : Int), (irange 0 a.length).map (fun j => m_laws_markText (1 + j))) :=
    LOOP_marks (f := m_laws_markText) (b := m_laws_markStringS_b1 a 1) (k := fun x => (x.2.1, x.1)) (fun rec xs kk i h0 h1 => by simp only [m_laws_markStringS_b1, h1, decide_true, Bool.cond_true]) (fun rec xs kk i h1 => by simp only [m_laws_markStringS_b1, h1, decide_false, Bool.cond_false]) (fun _ => rfl) 1 (by omega) (((a.length : Int) - 0 : Int).toNat + 1) a 0 (by omega) (by omega) (by omega) (by omega) (fun j h1 h2 => by omega)
  rw [e]
  refine ⟨?_, by simp only []; omega⟩
  have hl : ((irange 0 a.length).map (fun j => m_laws_markText (1 + j))).length = a.length := by rw [List.length_map, irange_len]
  have := LOOP_helds (f := m_laws_markText) (b := m_laws_heldStringS_b1 ((irange 0 a.length).map (fun j => m_laws_markText (1 + j))) 1) (k := fun x => x.1) (n := a.length) 1 (by omega) (by omega) (fun rec kk i h0 h1 => by simp only [m_laws_heldStringS_b1, hl, h1, decide_true, Bool.cond_true]) (fun rec kk i h1 => by simp only [m_laws_heldStringS_b1, hl, h1, decide_false, Bool.cond_false]) (fun _ => rfl) (((a.length : Int) - 0 : Int).toNat + 1) 0 (by omega) (by omega) (by omega)
  simp only [m_laws_heldStringS, hl]
  exact this

end Go.Proofs.Ytbflomopgofkgaa
