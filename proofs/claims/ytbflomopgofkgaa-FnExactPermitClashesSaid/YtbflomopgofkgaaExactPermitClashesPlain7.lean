/-
  PLAIN LAWS about the models: no program in sight. Conditions: as each theorem states them.
-/
import Derived.Test.YtbflomopgofkgaaExactPermitClashesPlain6
set_option linter.unusedVariables false
set_option linter.unusedSimpArgs false
set_option linter.unusedSectionVars false
set_option linter.unnecessarySimpa false
namespace Go.Proofs.Ytbflomopgofkgaa
open Go Go.RowKit Go.Proofs Go.Proofs.Ytbflomopgofkgaa.E
/-! ## Marks on rows whose elements hold rows -/
def markL {α : Type} (mk : α → Int → Int × α) : List α → Int → Int × List α
  | [], k => (k, [])
  | e :: r, k => ((markL mk r (mk e k).1).1, (mk e k).2 :: (markL mk r (mk e k).1).2)
def heldL {α : Type} (held : α → Int → Int) : List α → Int → Int
  | [], k => k
  | e :: r, k => bif decide (held e k < 0) then (-1) else heldL held r (held e k)
theorem drop_at {α : Type} [Inhabited α] {xs : List α} {i : Int} (h : 0 ≤ i ∧ i < xs.length) : xs.drop i.toNat = at' xs i :: xs.drop (i + 1).toNat := by
  have hl : i.toNat < xs.length := by omega
  rw [List.drop_eq_getElem_cons hl, show (i + 1).toNat = i.toNat + 1 by omega]
  simp [at', List.getD_eq_getElem?_getD, hl]
theorem take_set_succ {α : Type} {v : α} : ∀ {xs : List α} {n : Nat}, n < xs.length → (xs.set n v).take (n + 1) = xs.take n ++ [v]
  | [], _, h => by simp at h
  | x :: xs, 0, _ => by simp
  | x :: xs, n + 1, h => by
    rw [List.set_cons_succ, List.take_succ_cons, take_set_succ (xs := xs) (n := n) (by simpa using h)]
    simp
theorem LOOP_markN {α : Type} [Inhabited α] {mk : α → Int → Int × α} {b : (List α × Int × Int → Int × List α) → (List α × Int × Int → Int × List α) → List α × Int × Int → Int × List α} {k : List α × Int × Int → Int × List α}
    (hb : ∀ rec xs kk i, 0 ≤ i → i < (xs.length : Int) → b rec k (xs, kk, i) = rec (put' xs i (mk (at' xs i) kk).2, (mk (at' xs i) kk).1, i + 1)) (he : ∀ rec xs kk i, ¬ i < (xs.length : Int) → b rec k (xs, kk, i) = k (xs, kk, i)) (hk : ∀ x, k x = (x.2.1, x.1)) :
    ∀ (fuel : Nat) (xs : List α) (kk i : Int), 0 ≤ i → i ≤ xs.length → ((xs.length : Int) - i).toNat < fuel → LOOP b k fuel (xs, kk, i) = ((markL mk (xs.drop i.toNat) kk).1, xs.take i.toNat ++ (markL mk (xs.drop i.toNat) kk).2)
  | 0, _, _, _, _, _, h => by omega
  | m + 1, xs, kk, i, h1, h2, h4 => by
    simp only [LOOP]
    by_cases hi : i < (xs.length : Int)
    · rw [hb _ _ _ _ h1 hi]
      have hl : (put' xs i (mk (at' xs i) kk).2).length = xs.length := put_len
      rw [LOOP_markN hb he hk m _ _ (i + 1) (by omega) (by omega) (by omega), drop_at ⟨h1, hi⟩]
      have hn : (i + 1).toNat = i.toNat + 1 := by omega
      have hlt : i.toNat < xs.length := by omega
      have e1 : (put' xs i (mk (at' xs i) kk).2).drop (i + 1).toNat = xs.drop (i + 1).toNat := by
        rw [hn]; simp only [put']; rw [List.drop_set, if_pos (by omega)]
      have e2 : (put' xs i (mk (at' xs i) kk).2).take (i + 1).toNat = xs.take i.toNat ++ [(mk (at' xs i) kk).2] := by
        rw [hn]; exact take_set_succ hlt
      rw [e1, e2]
      simp only [markL, List.append_assoc, List.singleton_append]
    · have : i = xs.length := by omega
      subst this
      rw [he _ _ _ _ hi, hk]
      simp [markL]
theorem LOOP_heldN {α : Type} [Inhabited α] {held : α → Int → Int} {L : List α} {b : (Int × Int → Int) → (Int × Int → Int) → Int × Int → Int} {k : Int × Int → Int}
    (hb : ∀ rec kk i, 0 ≤ i → i < (L.length : Int) → b rec k (kk, i) = bif decide (held (at' L i) kk < 0) then (-1) else rec (held (at' L i) kk, i + 1)) (he : ∀ rec kk i, ¬ i < (L.length : Int) → b rec k (kk, i) = k (kk, i)) (hk : ∀ x, k x = x.1) :
    ∀ (fuel : Nat) (kk i : Int), 0 ≤ i → i ≤ L.length → ((L.length : Int) - i).toNat < fuel → LOOP b k fuel (kk, i) = heldL held (L.drop i.toNat) kk
  | 0, _, _, _, _, h => by omega
  | m + 1, kk, i, h1, h2, h4 => by
    simp only [LOOP]
    by_cases hi : i < (L.length : Int)
    · rw [hb _ _ _ h1 hi, drop_at ⟨h1, hi⟩]
      simp only [heldL]
      cases decide (held (at' L i) kk < 0) with
      | true => rfl
      | false => exact LOOP_heldN hb he hk m _ (i + 1) (by omega) (by omega) (by omega)
    · have : i = L.length := by omega
      subst this
      rw [he _ _ _ hi, hk]
      simp [heldL]
theorem held_markL {α : Type} {mk : α → Int → Int × α} {held : α → Int → Int} {sz : α → Nat} {B : Int} {Q : α → Prop} (h : ∀ e kk, Q e → 0 ≤ kk → kk + sz e ≤ B → (mk e kk).1 = kk + sz e ∧ held (mk e kk).2 kk = kk + sz e) :
    ∀ (l : List α) (kk : Int), (∀ e ∈ l, Q e) → 0 ≤ kk → kk + ((l.map sz).sum : Nat) ≤ B → (markL mk l kk).1 = kk + ((l.map sz).sum : Nat) ∧ heldL held (markL mk l kk).2 kk = kk + ((l.map sz).sum : Nat)
  | [], kk, _, _, _ => by simp [markL, heldL]
  | e :: r, kk, hQ, h0, hB => by
    simp only [List.map_cons, List.sum_cons, Int.natCast_add] at hB ⊢
    obtain ⟨h1, h2⟩ := h e kk (hQ e List.mem_cons_self) h0 (by omega)
    obtain ⟨i1, i2⟩ := held_markL h r (kk + sz e) (fun x hx => hQ x (List.mem_cons_of_mem _ hx)) (by omega) (by omega)
    simp only [markL, heldL, h1, h2]
    rw [i1, i2, decide_eq_false (by omega)]
    exact ⟨by omega, by simp only [Bool.cond_false]; omega⟩
theorem sum_le {α : Type} {sz : α → Nat} {c : Nat} : ∀ {l : List α}, (∀ e ∈ l, sz e ≤ c) → (l.map sz).sum ≤ l.length * c
  | [], _ => by simp
  | e :: r, h => by
    have := sum_le (l := r) fun x hx => h x (List.mem_cons_of_mem _ hx)
    have h1 := h e List.mem_cons_self
    simp only [List.map_cons, List.sum_cons, List.length_cons, Nat.succ_mul]
    omega

end Go.Proofs.Ytbflomopgofkgaa
