/-
  PLAIN LAWS about the models: no program in sight. Conditions: as each theorem states them.
-/
import Derived.Test.YtbflomopgofkgaaExactRankCrewsPlain11
set_option linter.unusedVariables false
set_option linter.unusedSimpArgs false
set_option linter.unusedSectionVars false
set_option linter.unnecessarySimpa false
namespace Go.Proofs.Ytbflomopgofkgaa
open Go Go.RowKit Go.Proofs Go.Proofs.Ytbflomopgofkgaa.E
/-! ## The stable sort: merging, by recursion -/
theorem JN_post {α β : Type} {c : Bool} {x y : α} {k : α → β} (P : α → Prop) (R : β → Prop) (hx : c = true → P x) (hy : c = false → P y) (hk : ∀ v, P v → R (k v)) : R (JN (fun j => bif c then j x else j y) k) := by
  cases c
  · exact hk _ (hy rfl)
  · exact hk _ (hx rfl)
theorem Srt.le {key : Txt → Int} {xs : List Txt} {a b i j : Int} (h : Srt key xs a b) (h1 : a ≤ i) (h2 : i ≤ j) (h3 : j < b) : key (at' xs i) ≤ key (at' xs j) := by
  by_cases e : i = j
  · subst e; exact Int.le_refl _
  · exact (h i j h1 (by omega) h3).le
theorem sym_spec {key : Txt → Int} {cmp : Txt → Txt → Int} (hc : ∀ x y, cmp x y < 0 ↔ key x < key y) : ∀ (fuel : Nat) (xs : List Txt) (a m b : Int), (0 ≤ a ∧ a < m ∧ m < b ∧ b ≤ xs.length ∧ xs.length ≤ 100000) → (b - a).toNat < fuel →
    Seg (m_slices_symMergeCmpFunc_string_n fuel xs a m b cmp) xs a b ∧ ((Srt key xs a m ∧ Srt key xs m b ∧ Nms xs a m b) → Srt key (m_slices_symMergeCmpFunc_string_n fuel xs a m b cmp) a b) := by
  intro fuel
  induction fuel with
  | zero => intro xs a m b _ h; omega
  | succ fuel IH =>
    rintro xs a m b ⟨h0, h1, h2, h3, h4⟩ hf
    simp only [m_slices_symMergeCmpFunc_string_n, m_slices_symMergeCmpFunc_string_body]
    by_cases e1 : m - a = 1
    · simp only [e1, beq_self_eq_true, Bool.cond_true]
      refine bin_loop (b := m_slices_symMergeCmpFunc_string_b1 (m_slices_symMergeCmpFunc_string_n fuel) xs a m b cmp) (H := Srt key xs a m ∧ Srt key xs m b ∧ Nms xs a m b) (fun c => decide (cmp (at' xs c) (at' xs a) < 0)) (fun r => Seg r xs a b ∧ ((Srt key xs a m ∧ Srt key xs m b ∧ Nms xs a m b) → Srt key r a b)) (by omega) (fun rec i j g1 g2 g3 => ?_) (fun rec i j g => ?_) (fun hH c d g1 g2 g3 g4 => ?_) (fun i g1 g2 gH => ?_) _ (by omega)
      · simp only [m_slices_symMergeCmpFunc_string_b1, g2, decide_true, Bool.cond_true, midw (s := i + j) (by omega) (by omega)]
      · simp only [m_slices_symMergeCmpFunc_string_b1, g, decide_false, Bool.cond_false]
      · simp only [decide_eq_true_eq, hc] at g4 ⊢
        have := hH.2.1.le g1 g2 g3; omega
      · refine LOOP_post (b := m_slices_symMergeCmpFunc_string_b2 (m_slices_symMergeCmpFunc_string_n fuel) xs a m b cmp (i, i)) (k := fun x2 => x2.1) (fun x => (a ≤ x.2 ∧ x.2 ≤ i - 1) ∧ x.1.length = xs.length ∧ ∀ p, 0 ≤ p → at' x.1 p = at' xs (rotL a x.2 p)) (fun x => (i - 1 - x.2).toNat) (fun _ r => Seg r xs a b ∧ ((Srt key xs a m ∧ Srt key xs m b ∧ Nms xs a m b) → Srt key r a b)) ?_ _ _ ⟨⟨by dsimp only; omega, by dsimp only; omega⟩, rfl, fun p hp => by congr 1; simp only [rotL]; split <;> (try split) <;> omega⟩ (by dsimp only; omega)
        rintro rec ⟨ys, k⟩ ⟨⟨k0, k1⟩, k2, k3⟩ ih
        dsimp only at k0 k1 k2 k3
        simp only [m_slices_symMergeCmpFunc_string_b2]
        by_cases hk : k < i - 1
        · simp only [hk, decide_true, Bool.cond_true]
          refine ih _ ⟨⟨by dsimp only; omega, by dsimp only; omega⟩, by dsimp only; rw [← k2]; exact sw_len, fun p hp => ?_⟩ (by dsimp only; omega)
          dsimp only
          rw [sw_at (by omega) (by omega) hp, k3 _ (by simp only [tr]; split <;> (try split) <;> omega)]
          congr 1
          simp only [rotL, tr]
          repeat' split
          all_goals omega
        · simp only [hk, decide_false, Bool.cond_false]
          have : k = i - 1 := by omega
          subst this
          have hs := sym_one (xs := xs) (ys := ys) (a := a) (m := m) (b := b) (i := i) (key := key) ⟨h0, by omega, h2, h3⟩ ⟨g1, g2⟩ k2 k3
          refine ⟨hs.1, fun hH => hs.2 hH ?_⟩
          have := gH hH
          refine ⟨fun c c1 c2 => by have := this.1 c c1 c2; simpa [hc] using this, fun c c1 c2 => by have := this.2 c c1 c2; simpa [hc] using this⟩
    · have e1' : (m - a == 1) = false := by simpa using e1
      simp only [e1', Bool.cond_false]
      by_cases e2 : b - m = 1
      · simp only [e2, beq_self_eq_true, Bool.cond_true]
        refine bin_loop (b := m_slices_symMergeCmpFunc_string_b3 (m_slices_symMergeCmpFunc_string_n fuel) xs a m b cmp) (H := Srt key xs a m ∧ Srt key xs m b ∧ Nms xs a m b) (fun c => !decide (cmp (at' xs m) (at' xs c) < 0)) (fun r => Seg r xs a b ∧ ((Srt key xs a m ∧ Srt key xs m b ∧ Nms xs a m b) → Srt key r a b)) (by omega) (fun rec i j g1 g2 g3 => ?_) (fun rec i j g => ?_) (fun hH c d g1 g2 g3 g4 => ?_) (fun i g1 g2 gH => ?_) _ (by omega)
        · simp only [m_slices_symMergeCmpFunc_string_b3, g2, decide_true, Bool.cond_true, midw (s := i + j) (by omega) (by omega)]
        · simp only [m_slices_symMergeCmpFunc_string_b3, g, decide_false, Bool.cond_false]
        · simp only [Bool.not_eq_true', decide_eq_false_iff_not, hc] at g4 ⊢
          have := hH.1.le g1 g2 g3; omega
        · refine LOOP_post (b := m_slices_symMergeCmpFunc_string_b4 (m_slices_symMergeCmpFunc_string_n fuel) xs a m b cmp (i, i)) (k := fun x2 => x2.1) (fun x => (i ≤ x.2 ∧ x.2 ≤ m) ∧ x.1.length = xs.length ∧ ∀ p, 0 ≤ p → at' x.1 p = at' xs (insf x.2 m p)) (fun x => x.2.toNat) (fun _ r => Seg r xs a b ∧ ((Srt key xs a m ∧ Srt key xs m b ∧ Nms xs a m b) → Srt key r a b)) ?_ _ _ ⟨⟨by dsimp only; omega, by dsimp only; omega⟩, rfl, fun p hp => by congr 1; simp only [insf]; split <;> (try split) <;> omega⟩ (by dsimp only; omega)
          rintro rec ⟨ys, k⟩ ⟨⟨k0, k1⟩, k2, k3⟩ ih
          dsimp only at k0 k1 k2 k3
          simp only [m_slices_symMergeCmpFunc_string_b4]
          by_cases hk : i < k
          · simp only [hk, decide_true, Bool.cond_true]
            refine ih _ ⟨⟨by dsimp only; omega, by dsimp only; omega⟩, by dsimp only; rw [← k2]; exact sw_len, fun p hp => ?_⟩ (by dsimp only; omega)
            dsimp only
            rw [sw_at (by omega) (by omega) hp, k3 _ (by simp only [tr]; split <;> (try split) <;> omega)]
            congr 1
            simp only [insf, tr]
            repeat' split
            all_goals omega
          · simp only [hk, decide_false, Bool.cond_false]
            have : k = i := by omega
            subst this
            have hs := sym_last (xs := xs) (ys := ys) (a := a) (m := m) (b := b) (i := k) (key := key) ⟨h0, h1, by omega, h3⟩ ⟨g1, g2⟩ k2 k3
            refine ⟨hs.1, fun hH => hs.2 hH ?_⟩
            have := gH hH
            refine ⟨fun c c1 c2 => by have := this.1 c c1 c2; simpa [hc] using this, fun c c1 c2 => by have := this.2 c c1 c2; simpa [hc] using this⟩
      · have e2' : (b - m == 1) = false := by simpa using e2
        simp only [e2', Bool.cond_false, midw (s := a + b) (by omega) (by omega)]
        refine JN_post (fun v => v = (((a + b) / 2 + m - b, (a + b) / 2) : Int × Int) ∧ (a + b) / 2 < m ∨ v = (a, m) ∧ m ≤ (a + b) / 2) (fun r => Seg r xs a b ∧ ((Srt key xs a m ∧ Srt key xs m b ∧ Nms xs a m b) → Srt key r a b)) (fun h => .inl ⟨rfl, by simpa using h⟩) (fun h => .inr ⟨rfl, by simpa using h⟩) ?_
        rintro ⟨lo, hi⟩ hv
        dsimp only
        have hv' : (lo = (a + b) / 2 + m - b ∧ hi = (a + b) / 2 ∧ (a + b) / 2 < m) ∨ (lo = a ∧ hi = m ∧ m ≤ (a + b) / 2) := by
          rcases hv with ⟨hv, h⟩ | ⟨hv, h⟩ <;> simp only [Prod.mk.injEq] at hv <;> omega
        clear hv
        refine bin_loop (b := m_slices_symMergeCmpFunc_string_b5 (m_slices_symMergeCmpFunc_string_n fuel) xs a m b cmp (lo, hi)) (H := Srt key xs a m ∧ Srt key xs m b ∧ Nms xs a m b) (fun c => !decide (cmp (at' xs ((a + b) / 2 + m - 1 - c)) (at' xs c) < 0)) (fun r => Seg r xs a b ∧ ((Srt key xs a m ∧ Srt key xs m b ∧ Nms xs a m b) → Srt key r a b)) (by omega) (fun rec i j g1 g2 g3 => ?_) (fun rec i j g => ?_) (fun hH c d g1 g2 g3 g4 => ?_) (fun i g1 g2 gH => ?_) _ (by omega)
        · simp only [m_slices_symMergeCmpFunc_string_b5, g2, decide_true, Bool.cond_true, midw (s := i + j) (by omega) (by omega), midw (s := a + b) (by omega) (by omega)]
        · simp only [m_slices_symMergeCmpFunc_string_b5, g, decide_false, Bool.cond_false]
        · simp only [Bool.not_eq_true', decide_eq_false_iff_not, hc] at g4 ⊢
          have t1 := hH.1.le (i := c) (j := d) (by omega) g2 (by omega)
          have t2 := hH.2.1.le (i := (a + b) / 2 + m - 1 - d) (j := (a + b) / 2 + m - 1 - c) (by omega) (by omega) (by omega)
          omega
        · have hir : a ≤ i ∧ i ≤ m ∧ i ≤ (a + b) / 2 ∧ (a + b) / 2 + m - b ≤ i := by omega
          have hPart : (Srt key xs a m ∧ Srt key xs m b ∧ Nms xs a m b) → Part key xs a m b i := fun hH => by
            have gq := gH hH
            refine ⟨fun p q c1 c2 c3 c4 => ?_, fun p q c1 c2 c3 c4 => ?_⟩
            · have hq := gq.1 (i - 1) (by omega) (by omega)
              simp only [Bool.not_eq_true', decide_eq_false_iff_not, hc] at hq
              have t1 := hH.1.le (i := p) (j := i - 1) (by omega) (by omega) (by omega)
              have t2 := hH.2.1.le (i := (a + b) / 2 + m - 1 - (i - 1)) (j := q) (by omega) (by omega) (by omega)
              omega
            · have hq := gq.2 i (by omega) (by omega)
              simp only [Bool.not_eq_false', decide_eq_true_eq, hc] at hq
              have t1 := hH.1.le (i := i) (j := p) (by omega) (by omega) (by omega)
              have t2 := hH.2.1.le (i := q) (j := (a + b) / 2 + m - 1 - i) (by omega) (by omega) (by omega)
              omega
          refine JN_post (fun F1 => F1.length = xs.length ∧ ∀ p, 0 ≤ p → at' F1 p = at' xs (rotf i m ((a + b) / 2 + m - i) p)) (fun r => Seg r xs a b ∧ ((Srt key xs a m ∧ Srt key xs m b ∧ Nms xs a m b) → Srt key r a b)) (fun h => ?_) (fun h => ?_) ?_
          · simp only [Bool.and_eq_true, decide_eq_true_eq] at h
            exact rot_spec (by omega)
          · simp only [Bool.and_eq_false_iff, decide_eq_false_iff_not] at h
            refine ⟨rfl, fun p hp => ?_⟩
            congr 1
            simp only [rotf]
            split <;> (try split) <;> omega
          · intro F1 hF1
            have hhalf := sym_halves (key := key) (xs := xs) (F1 := F1) (a := a) (m := m) (b := b) (i := i) ⟨h0, h1, h2, h3⟩ hir hF1
            refine JN_post (fun F2 => Seg F2 F1 a ((a + b) / 2) ∧ ((Srt key xs a m ∧ Srt key xs m b ∧ Nms xs a m b) → Srt key F2 a ((a + b) / 2))) (fun r => Seg r xs a b ∧ ((Srt key xs a m ∧ Srt key xs m b ∧ Nms xs a m b) → Srt key r a b)) (fun h => ?_) (fun h => ?_) ?_
            · simp only [Bool.and_eq_true, decide_eq_true_eq] at h
              have := IH F1 a i ((a + b) / 2) (by omega) (by omega)
              exact ⟨this.1, fun hH => this.2 (hhalf hH).1⟩
            · simp only [Bool.and_eq_false_iff, decide_eq_false_iff_not] at h
              refine ⟨Seg.refl _ _ _, fun hH => ?_⟩
              rcases h with h | h
              · have : i = a := by omega
                subst this; exact (hhalf hH).1.2.1
              · have : i = (a + b) / 2 := by omega
                have hh := (hhalf hH).1.1
                rw [this] at hh; exact hh
            · rintro F2 ⟨hF2, hs2⟩
              have hl2 := hF2.len
              have hsame : ∀ p, (a + b) / 2 ≤ p → p < b → at' F2 p = at' F1 p := fun p c1 c2 => hF2.out p (by omega) (by omega)
              have hpre : (Srt key xs a m ∧ Srt key xs m b ∧ Nms xs a m b) → Srt key F2 ((a + b) / 2) ((a + b) / 2 + m - i) ∧ Srt key F2 ((a + b) / 2 + m - i) b ∧ Nms F2 ((a + b) / 2) ((a + b) / 2 + m - i) b := fun hH => by
                have hh := (hhalf hH).2
                refine ⟨hh.1.congr fun p c1 c2 => hsame p c1 (by omega), hh.2.1.congr fun p c1 c2 => hsame p (by omega) c2, fun p q c1 c2 c3 c4 => ?_⟩
                rw [hsame p c1 (by omega), hsame q (by omega) c4]; exact hh.2.2 p q c1 c2 c3 c4
              by_cases h5 : (a + b) / 2 < (a + b) / 2 + m - i ∧ (a + b) / 2 + m - i < b
              · simp only [h5.1, h5.2, decide_true, Bool.and_self, Bool.cond_true]
                have h6 := IH F2 ((a + b) / 2) ((a + b) / 2 + m - i) b (by omega) (by omega)
                have h7 := sym_main (key := key) ⟨h0, h1, h2, h3⟩ hir hF1 hF2 h6.1
                exact ⟨h7.1, fun hH => h7.2 hH (hPart hH) (hs2 hH) (h6.2 (hpre hH))⟩
              · have : (decide ((a + b) / 2 < (a + b) / 2 + m - i) && decide ((a + b) / 2 + m - i < b)) = false := by
                  rw [Bool.eq_false_iff]; simpa using h5
                simp only [this, Bool.cond_false]
                have h7 := sym_main (key := key) ⟨h0, h1, h2, h3⟩ hir hF1 hF2 (Seg.refl F2 ((a + b) / 2) b)
                refine ⟨h7.1, fun hH => h7.2 hH (hPart hH) (hs2 hH) ?_⟩
                have hh := hpre hH
                by_cases h8 : (a + b) / 2 < (a + b) / 2 + m - i
                · have h9 : (a + b) / 2 + m - i = b := by omega
                  have := hh.1; rw [h9] at this; exact this
                · have h9 : (a + b) / 2 + m - i = (a + b) / 2 := by omega
                  have := hh.2.1; rw [h9] at this; exact this

end Go.Proofs.Ytbflomopgofkgaa
