/-
  PLAIN LAWS about the models: no program in sight. Conditions: as each theorem states them.
-/
import Derived.Test.YtbflomopgofkgaaExactAddPermitPlain6
set_option linter.unusedVariables false
set_option linter.unusedSimpArgs false
set_option linter.unusedSectionVars false
set_option linter.unnecessarySimpa false
namespace Go.Proofs.Ytbflomopgofkgaa
open Go Go.RowKit Go.Proofs Go.Proofs.Ytbflomopgofkgaa.E
/-! ## Marks on structures -/
theorem LOOP_markt {α : Type} [Inhabited α] {f : Int → α} {s : Int} {b : (List α × Int × Int → Int × List α) → (List α × Int × Int → Int × List α) → List α × Int × Int → Int × List α} {k : List α × Int × Int → Int × List α} (hs : 0 ≤ s) (k0 : Int) (h0 : 0 ≤ k0)
    (hb : ∀ rec xs kk i, 0 ≤ i → i < (xs.length : Int) → 0 ≤ kk → kk ≤ 9223372036854770000 → b rec k (xs, kk, i) = rec (put' xs i (f kk), kk + s, i + 1)) (he : ∀ rec xs kk i, ¬ i < (xs.length : Int) → b rec k (xs, kk, i) = k (xs, kk, i)) (hk : ∀ x, k x = (x.2.1, x.1)) :
    ∀ (fuel : Nat) (xs : List α) (i : Int), 0 ≤ i → i ≤ xs.length → k0 + s * xs.length ≤ 9223372036854770000 → ((xs.length : Int) - i).toNat < fuel → (∀ j : Int, 0 ≤ j → j < i → at' xs j = f (k0 + s * j)) →
      LOOP b k fuel (xs, k0 + s * i, i) = (k0 + s * xs.length, (irange 0 xs.length).map (fun j => f (k0 + s * j)))
  | 0, _, _, _, _, _, h, _ => by omega
  | m + 1, xs, i, h1, h2, h3, h4, h5 => by
    simp only [LOOP]
    have g1 : s * i ≤ s * xs.length := Int.mul_le_mul_of_nonneg_left h2 hs
    have g0 : 0 ≤ s * i := Int.mul_nonneg hs h1
    by_cases hi : i < (xs.length : Int)
    · rw [hb _ _ _ _ h1 hi (by omega) (by omega), show k0 + s * i + s = k0 + s * (i + 1) by rw [Int.mul_add]; omega]
      have hl : (put' xs i (f (k0 + s * i))).length = xs.length := put_len
      rw [LOOP_markt hs k0 h0 hb he hk m _ (i + 1) (by omega) (by omega) (by rw [hl]; omega) (by omega) ?_, hl]
      intro j hj1 hj2
      by_cases e : j = i
      · subst e; exact put_at ⟨hj1, hi⟩
      · rw [put_at_ne h1 hj1 (fun h => e h.symm)]; exact h5 j hj1 (by omega)
    · have : i = xs.length := by omega
      subst this
      rw [he _ _ _ _ hi, hk]
      exact Prod.ext rfl (list_eq_irange rfl h5)
theorem LOOP_heldt {α : Type} [Inhabited α] {f : Int → α} {s : Int} {L : List α} {b : (Int × Int → Int) → (Int × Int → Int) → Int × Int → Int} {k : Int × Int → Int} {n : Nat} (hs : 0 ≤ s) (k0 : Int) (h0 : 0 ≤ k0) (hn : k0 + s * n ≤ 9223372036854770000) (hL : L = (irange 0 n).map (fun j => f (k0 + s * j)))
    (hb : ∀ rec kk i, 0 ≤ i → i < (n : Int) → 0 ≤ kk → kk ≤ 9223372036854770000 → at' L i = f kk → b rec k (kk, i) = rec (kk + s, i + 1)) (he : ∀ rec kk i, ¬ i < (n : Int) → b rec k (kk, i) = k (kk, i)) (hk : ∀ x, k x = x.1) :
    ∀ (fuel : Nat) (i : Int), 0 ≤ i → i ≤ n → ((n : Int) - i).toNat < fuel → LOOP b k fuel (k0 + s * i, i) = k0 + s * n
  | 0, _, _, _, h => by omega
  | m + 1, i, h1, h2, h4 => by
    simp only [LOOP]
    have g1 : s * i ≤ s * n := Int.mul_le_mul_of_nonneg_left h2 hs
    have g0 : 0 ≤ s * i := Int.mul_nonneg hs h1
    by_cases hi : i < (n : Int)
    · rw [hb _ _ _ h1 hi (by omega) (by omega) (by rw [hL, at_irange0 h1 hi]), show k0 + s * i + s = k0 + s * (i + 1) by rw [Int.mul_add]; omega]
      exact LOOP_heldt hs k0 h0 hn hL hb he hk m (i + 1) (by omega) (by omega) (by omega)
    · have : i = n := by omega
      subst this
      rw [he _ _ _ hi, hk]

end Go.Proofs.Ytbflomopgofkgaa
