/-
  PLAIN LAWS about the models: no program in sight. Conditions: as each theorem states them.
-/
import Derived.Test.YtbflomopgofkgaaExactRankCrewsPlain10
set_option linter.unusedVariables false
set_option linter.unusedSimpArgs false
set_option linter.unusedSectionVars false
set_option linter.unnecessarySimpa false
namespace Go.Proofs.Ytbflomopgofkgaa
open Go Go.RowKit Go.Proofs Go.Proofs.Ytbflomopgofkgaa.E
/-! ## The stable sort: merging in place -/
theorem bin_loop {ρ : Type} {b : (Int × Int → ρ) → (Int × Int → ρ) → Int × Int → ρ} {k : Int × Int → ρ} {lo hi : Int} {H : Prop} (q : Int → Bool) (R : ρ → Prop) (hlo : lo ≤ hi)
    (hb : ∀ rec i j, lo ≤ i → i < j → j ≤ hi → b rec k (i, j) = bif q ((i + j) / 2) then rec ((i + j) / 2 + 1, j) else rec (i, (i + j) / 2)) (he : ∀ rec i j, ¬ i < j → b rec k (i, j) = k (i, j))
    (mono : H → ∀ c d, lo ≤ c → c ≤ d → d < hi → q d = true → q c = true)
    (fin : ∀ i, lo ≤ i → i ≤ hi → (H → (∀ c, lo ≤ c → c < i → q c = true) ∧ ∀ c, i ≤ c → c < hi → q c = false) → R (k (i, i))) (fuel : Nat) (hf : (hi - lo).toNat < fuel) : R (LOOP b k fuel (lo, hi)) := by
  refine LOOP_post (b := b) (k := k) (fun x => (lo ≤ x.1 ∧ x.1 ≤ x.2 ∧ x.2 ≤ hi) ∧ (H → (∀ c, lo ≤ c → c < x.1 → q c = true) ∧ ∀ c, x.2 ≤ c → c < hi → q c = false)) (fun x => (x.2 - x.1).toNat) (fun _ r => R r) ?_ fuel _ ⟨⟨by dsimp only; omega, by dsimp only; omega, by dsimp only; omega⟩, fun _ => ⟨fun c h1 h2 => by dsimp only at h2; omega, fun c h1 h2 => by dsimp only at h1; omega⟩⟩ (by dsimp only; omega)
  rintro rec ⟨i, j⟩ ⟨⟨h0, h1, h2⟩, hI⟩ ih
  dsimp only at h0 h1 h2 hI
  by_cases hij : i < j
  · rw [hb rec i j h0 hij h2]
    cases hq : q ((i + j) / 2) with
    | true =>
      simp only [Bool.cond_true]
      refine ih _ ⟨⟨by dsimp only; omega, by dsimp only; omega, by dsimp only; omega⟩, fun h => ⟨fun c c1 c2 => ?_, (hI h).2⟩⟩ (by dsimp only; omega)
      dsimp only at c2
      exact mono h c ((i + j) / 2) c1 (by omega) (by omega) hq
    | false =>
      simp only [Bool.cond_false]
      refine ih _ ⟨⟨by dsimp only; omega, by dsimp only; omega, by dsimp only; omega⟩, fun h => ⟨(hI h).1, fun c c1 c2 => ?_⟩⟩ (by dsimp only; omega)
      dsimp only at c1
      cases hc : q c with
      | false => rfl
      | true => rw [mono h ((i + j) / 2) c (by omega) c1 c2 hc] at hq; simp at hq
  · have : i = j := by omega
    subst this
    rw [he rec i i hij]
    exact fin i h0 h2 hI
def rotL (a k p : Int) : Int := if a ≤ p ∧ p < k then p + 1 else if p = k then a else p
theorem sym_one {xs ys : List Txt} {a m b i : Int} {key : Txt → Int} (hr : 0 ≤ a ∧ m = a + 1 ∧ m < b ∧ b ≤ xs.length) (hi : m ≤ i ∧ i ≤ b) (hl : ys.length = xs.length) (hy : ∀ p, 0 ≤ p → at' ys p = at' xs (rotL a (i - 1) p)) :
    Seg ys xs a b ∧ ((Srt key xs a m ∧ Srt key xs m b ∧ Nms xs a m b) → ((∀ c, m ≤ c → c < i → key (at' xs c) < key (at' xs a)) ∧ ∀ c, i ≤ c → c < b → ¬ key (at' xs c) < key (at' xs a)) → Srt key ys a b) := by
  refine ⟨Seg.of (rotL a (i - 1)) (fun q => if q = a then i - 1 else if a < q ∧ q ≤ i - 1 then q - 1 else q) hl hr.1 hy (fun p hp => by simp only [rotL]; split <;> (try split) <;> omega) (fun p h1 h2 => by simp only [rotL]; split <;> (try split) <;> omega) (fun q h1 h2 => by
    simp only [rotL]
    refine ⟨?_, ?_⟩
    · split <;> (try split) <;> omega
    · repeat' split
      all_goals omega), ?_⟩
  rintro ⟨_, hs, hn⟩ ⟨g1, g2⟩ p q e1 e2 e3
  rw [hy p (by omega), hy q (by omega)]
  by_cases c1 : q < i - 1
  · rw [show rotL a (i - 1) p = p + 1 by simp only [rotL]; split <;> (try split) <;> omega, show rotL a (i - 1) q = q + 1 by simp only [rotL]; split <;> (try split) <;> omega]
    exact hs _ _ (by omega) (by omega) (by omega)
  · by_cases c2 : q = i - 1
    · rw [show rotL a (i - 1) p = p + 1 by simp only [rotL]; split <;> (try split) <;> omega, show rotL a (i - 1) q = a by simp only [rotL]; split <;> (try split) <;> omega]
      exact .inl (g1 _ (by omega) (by omega))
    · rw [show rotL a (i - 1) q = q by simp only [rotL]; split <;> (try split) <;> omega]
      by_cases c3 : p < i - 1
      · rw [show rotL a (i - 1) p = p + 1 by simp only [rotL]; split <;> (try split) <;> omega]
        exact hs _ _ (by omega) (by omega) (by omega)
      · by_cases c4 : p = i - 1
        · rw [show rotL a (i - 1) p = a by simp only [rotL]; split <;> (try split) <;> omega]
          exact LT.of (by have := g2 q (by omega) (by omega); omega) (hn a q (by omega) (by omega) (by omega) (by omega))
        · rw [show rotL a (i - 1) p = p by simp only [rotL]; split <;> (try split) <;> omega]
          exact hs _ _ (by omega) (by omega) (by omega)
theorem sym_last {xs ys : List Txt} {a m b i : Int} {key : Txt → Int} (hr : 0 ≤ a ∧ a < m ∧ b = m + 1 ∧ b ≤ xs.length) (hi : a ≤ i ∧ i ≤ m) (hl : ys.length = xs.length) (hy : ∀ p, 0 ≤ p → at' ys p = at' xs (insf i m p)) :
    Seg ys xs a b ∧ ((Srt key xs a m ∧ Srt key xs m b ∧ Nms xs a m b) → ((∀ c, a ≤ c → c < i → ¬ key (at' xs m) < key (at' xs c)) ∧ ∀ c, i ≤ c → c < m → key (at' xs m) < key (at' xs c)) → Srt key ys a b) := by
  refine ⟨Seg.of (insf i m) (fun q => if q = m then i else if i ≤ q ∧ q < m then q + 1 else q) hl hr.1 hy (fun p hp => by simp only [insf]; split <;> (try split) <;> omega) (fun p h1 h2 => by simp only [insf]; split <;> (try split) <;> omega) (fun q h1 h2 => by
    simp only [insf]
    refine ⟨?_, ?_⟩
    · split <;> (try split) <;> omega
    · repeat' split
      all_goals omega), ?_⟩
  rintro ⟨hs, _, hn⟩ ⟨g1, g2⟩ p q e1 e2 e3
  rw [hy p (by omega), hy q (by omega)]
  by_cases c1 : q < i
  · rw [show insf i m p = p by simp only [insf]; split <;> (try split) <;> omega, show insf i m q = q by simp only [insf]; split <;> (try split) <;> omega]
    exact hs _ _ (by omega) (by omega) (by omega)
  · by_cases c2 : q = i
    · rw [show insf i m p = p by simp only [insf]; split <;> (try split) <;> omega, show insf i m q = m by simp only [insf]; split <;> (try split) <;> omega]
      exact LT.of (by have := g1 p (by omega) (by omega); omega) (hn p m (by omega) (by omega) (by omega) (by omega))
    · rw [show insf i m q = q - 1 by simp only [insf]; split <;> (try split) <;> omega]
      by_cases c3 : p < i
      · rw [show insf i m p = p by simp only [insf]; split <;> (try split) <;> omega]
        exact hs _ _ (by omega) (by omega) (by omega)
      · by_cases c4 : p = i
        · rw [show insf i m p = m by simp only [insf]; split <;> (try split) <;> omega]
          exact .inl (g2 _ (by omega) (by omega))
        · rw [show insf i m p = p - 1 by simp only [insf]; split <;> (try split) <;> omega]
          exact hs _ _ (by omega) (by omega) (by omega)
/-- what the parting of two runs at i yields: A1 B1 | A2 B2 -/
structure Part (key : Txt → Int) (xs : List Txt) (a m b i : Int) : Prop where
  l : ∀ p q, a ≤ p → p < i → (a + b) / 2 + m - i ≤ q → q < b → key (at' xs p) ≤ key (at' xs q)
  r : ∀ p q, i ≤ p → p < m → m ≤ q → q < (a + b) / 2 + m - i → key (at' xs q) < key (at' xs p)
theorem sym_main {key : Txt → Int} {xs F1 F2 F3 : List Txt} {a m b i : Int} (hr : 0 ≤ a ∧ a < m ∧ m < b ∧ b ≤ xs.length) (hi : a ≤ i ∧ i ≤ m ∧ i ≤ (a + b) / 2 ∧ (a + b) / 2 + m - b ≤ i) (h1 : F1.length = xs.length ∧ ∀ p, 0 ≤ p → at' F1 p = at' xs (rotf i m ((a + b) / 2 + m - i) p))
    (h2 : Seg F2 F1 a ((a + b) / 2)) (h3 : Seg F3 F2 ((a + b) / 2) b) : Seg F3 xs a b ∧ ((Srt key xs a m ∧ Srt key xs m b ∧ Nms xs a m b) → Part key xs a m b i → Srt key F2 a ((a + b) / 2) → Srt key F3 ((a + b) / 2) b → Srt key F3 a b) := by
  have hS1 : Seg F1 xs a b := by
    refine Seg.of (rotf i m ((a + b) / 2 + m - i)) (fun q => if i ≤ q ∧ q < m then q + ((a + b) / 2 - i) else if m ≤ q ∧ q < (a + b) / 2 + m - i then q - (m - i) else q) h1.1 hr.1 h1.2 (fun p hp => by simp only [rotf]; split <;> (try split) <;> omega) (fun p h1 h2 => by simp only [rotf]; split <;> (try split) <;> omega) (fun q h1 h2 => by
      simp only [rotf]
      refine ⟨?_, ?_⟩
      · split <;> (try split) <;> omega
      · repeat' split
        all_goals omega)
  refine ⟨h3.wide hr.1 (by omega) (by omega) |>.trans ((h2.wide hr.1 (by omega) (by omega)).trans hS1), ?_⟩
  rintro ⟨hsa, hsb, hn⟩ hP hs2 hs3 p q e1 e2 e3
  by_cases c1 : q < (a + b) / 2
  · rw [h3.out p (by omega) (by omega), h3.out q (by omega) (by omega)]
    exact hs2 p q e1 e2 c1
  · by_cases c2 : (a + b) / 2 ≤ p
    · exact hs3 p q c2 e2 e3
    · rw [h3.out p (by omega) (by omega)]
      obtain ⟨p', hp', ep⟩ := h2.sub p e1 (by omega)
      obtain ⟨q', hq', eq⟩ := h3.sub q (by omega) e3
      rw [ep, eq, h2.out q' (by omega) (by omega), h1.2 p' (by omega), h1.2 q' (by omega)]
      by_cases d1 : p' < i
      · rw [show rotf i m ((a + b) / 2 + m - i) p' = p' by simp only [rotf]; split <;> (try split) <;> omega]
        by_cases d2 : q' < (a + b) / 2 + m - i
        · rw [show rotf i m ((a + b) / 2 + m - i) q' = q' - ((a + b) / 2 - i) by simp only [rotf]; split <;> (try split) <;> omega]
          exact hsa _ _ (by omega) (by omega) (by omega)
        · rw [show rotf i m ((a + b) / 2 + m - i) q' = q' by simp only [rotf]; split <;> (try split) <;> omega]
          exact LT.of (hP.l _ _ (by omega) d1 (by omega) (by omega)) (hn _ _ (by omega) (by omega) (by omega) (by omega))
      · rw [show rotf i m ((a + b) / 2 + m - i) p' = p' + (m - i) by simp only [rotf]; split <;> (try split) <;> omega]
        by_cases d2 : q' < (a + b) / 2 + m - i
        · rw [show rotf i m ((a + b) / 2 + m - i) q' = q' - ((a + b) / 2 - i) by simp only [rotf]; split <;> (try split) <;> omega]
          exact .inl (hP.r _ _ (by omega) (by omega) (by omega) (by omega))
        · rw [show rotf i m ((a + b) / 2 + m - i) q' = q' by simp only [rotf]; split <;> (try split) <;> omega]
          exact hsb _ _ (by omega) (by omega) (by omega)
/-- the halves before they are merged -/
theorem sym_halves {key : Txt → Int} {xs F1 : List Txt} {a m b i : Int} (hr : 0 ≤ a ∧ a < m ∧ m < b ∧ b ≤ xs.length) (hi : a ≤ i ∧ i ≤ m ∧ i ≤ (a + b) / 2 ∧ (a + b) / 2 + m - b ≤ i) (h1 : F1.length = xs.length ∧ ∀ p, 0 ≤ p → at' F1 p = at' xs (rotf i m ((a + b) / 2 + m - i) p)) (h : Srt key xs a m ∧ Srt key xs m b ∧ Nms xs a m b) :
    (Srt key F1 a i ∧ Srt key F1 i ((a + b) / 2) ∧ Nms F1 a i ((a + b) / 2)) ∧ (Srt key F1 ((a + b) / 2) ((a + b) / 2 + m - i) ∧ Srt key F1 ((a + b) / 2 + m - i) b ∧ Nms F1 ((a + b) / 2) ((a + b) / 2 + m - i) b) := by
  obtain ⟨hsa, hsb, hn⟩ := h
  have v1 : ∀ p, a ≤ p → p < i → at' F1 p = at' xs p := fun p g1 g2 => by rw [h1.2 p (by omega), show rotf i m ((a + b) / 2 + m - i) p = p by simp only [rotf]; split <;> (try split) <;> omega]
  have v2 : ∀ p, i ≤ p → p < (a + b) / 2 → at' F1 p = at' xs (p + (m - i)) := fun p g1 g2 => by rw [h1.2 p (by omega), show rotf i m ((a + b) / 2 + m - i) p = p + (m - i) by simp only [rotf]; split <;> (try split) <;> omega]
  have v3 : ∀ p, (a + b) / 2 ≤ p → p < (a + b) / 2 + m - i → at' F1 p = at' xs (p - ((a + b) / 2 - i)) := fun p g1 g2 => by rw [h1.2 p (by omega), show rotf i m ((a + b) / 2 + m - i) p = p - ((a + b) / 2 - i) by simp only [rotf]; split <;> (try split) <;> omega]
  have v4 : ∀ p, (a + b) / 2 + m - i ≤ p → p < b → at' F1 p = at' xs p := fun p g1 g2 => by rw [h1.2 p (by omega), show rotf i m ((a + b) / 2 + m - i) p = p by simp only [rotf]; split <;> (try split) <;> omega]
  refine ⟨⟨fun p q g1 g2 g3 => ?_, fun p q g1 g2 g3 => ?_, fun p q g1 g2 g3 g4 => ?_⟩, fun p q g1 g2 g3 => ?_, fun p q g1 g2 g3 => ?_, fun p q g1 g2 g3 g4 => ?_⟩
  · rw [v1 p g1 (by omega), v1 q (by omega) g3]; exact hsa _ _ (by omega) (by omega) (by omega)
  · rw [v2 p g1 (by omega), v2 q (by omega) g3]; exact hsb _ _ (by omega) (by omega) (by omega)
  · rw [v1 p g1 g2, v2 q g3 g4]; exact hn _ _ (by omega) (by omega) (by omega) (by omega)
  · rw [v3 p g1 (by omega), v3 q (by omega) g3]; exact hsa _ _ (by omega) (by omega) (by omega)
  · rw [v4 p g1 (by omega), v4 q (by omega) g3]; exact hsb _ _ (by omega) (by omega) (by omega)
  · rw [v3 p g1 g2, v4 q g3 g4]; exact hn _ _ (by omega) (by omega) (by omega) (by omega)

end Go.Proofs.Ytbflomopgofkgaa
