/-
  PLAIN LAWS about the models: no program in sight. Conditions: as each theorem states them.
-/
import Derived.Test.YtbflomopgofkgaaExactRankCrewsPlain9
set_option linter.unusedVariables false
set_option linter.unusedSimpArgs false
set_option linter.unusedSectionVars false
set_option linter.unnecessarySimpa false
namespace Go.Proofs.Ytbflomopgofkgaa
open Go Go.RowKit Go.Proofs Go.Proofs.Ytbflomopgofkgaa.E
/-! ## The stable sort of a library, by places -/
theorem midw {s : Int} (h0 : 0 ≤ s) (h1 : s ≤ 100000000) : IntKind.wrap .i64 (Int.fdiv (IntKind.wrap .u64 s) (2 ^ min (1 : Int).toNat 64)) = s / 2 := by
  have hu : IntKind.wrap .u64 s = s := by
    show s % 18446744073709551616 = s
    omega
  rw [hu, show (2 : Int) ^ min (1 : Int).toNat 64 = 2 from rfl, Int.fdiv_eq_ediv_of_nonneg s (by omega : (0 : Int) ≤ 2), wr64 (by omega)]
def tr (i j p : Int) : Int := if p = j then i else if p = i then j else p
theorem sw_at {α : Type} [Inhabited α] {xs : List α} {i j p : Int} (hi : 0 ≤ i ∧ i < xs.length) (hj : 0 ≤ j ∧ j < xs.length) (hp : 0 ≤ p) : at' (put' (put' xs i (at' xs j)) j (at' xs i)) p = at' xs (tr i j p) := by
  unfold tr
  by_cases h1 : p = j
  · subst h1; rw [if_pos rfl, put_at ⟨hj.1, by rw [put_len]; exact hj.2⟩]
  · rw [if_neg h1, put_at_ne hj.1 hp (fun e => h1 e.symm)]
    by_cases h2 : p = i
    · subst h2; rw [if_pos rfl, put_at hi]
    · rw [if_neg h2, put_at_ne hi.1 hp (fun e => h2 e.symm)]
theorem sw_len {α : Type} {xs : List α} {i j : Int} {x y : α} : (put' (put' xs i x) j y).length = xs.length := by rw [put_len, put_len]
theorem swap_all {α : Type} [Inhabited α] {Q : α → Prop} {xs : List α} {i j k l : Int} (h : ∀ x ∈ xs, Q x) (hi : 0 ≤ i ∧ i < xs.length) (hj : 0 ≤ j ∧ j < xs.length) (_ : 0 ≤ j) : ∀ x ∈ put' (put' xs k (at' xs i)) l (at' xs j), Q x := by
  intro x hx
  rcases List.mem_or_eq_of_mem_set hx with hx | hx
  · rcases List.mem_or_eq_of_mem_set hx with hx | hx
    · exact h x hx
    · subst hx; exact h _ (at_mem hi)
  · subst hx; exact h _ (at_mem hj)
/-! ### Two stretches change places -/
def swf (a b n p : Int) : Int := if a ≤ p ∧ p < a + n then p + (b - a) else if b ≤ p ∧ p < b + n then p - (b - a) else p
theorem swap_spec {xs : List Txt} {a b n : Int} {cmp : Txt → Txt → Int} (h : 0 ≤ a ∧ 0 ≤ n ∧ a + n ≤ b ∧ b + n ≤ xs.length) : (m_slices_swapRangeCmpFunc_string xs a b n cmp).length = xs.length ∧ ∀ p, 0 ≤ p → at' (m_slices_swapRangeCmpFunc_string xs a b n cmp) p = at' xs (swf a b n p) := by
  simp only [m_slices_swapRangeCmpFunc_string]
  refine LOOP_post (b := m_slices_swapRangeCmpFunc_string_b1 xs a b n cmp) (k := fun x1 => x1.1) (fun x => (0 ≤ x.2 ∧ x.2 ≤ n) ∧ x.1.length = xs.length ∧ ∀ p, 0 ≤ p → at' x.1 p = at' xs (swf a b x.2 p)) (fun x => (n - x.2).toNat) (fun _ r => r.length = xs.length ∧ ∀ p, 0 ≤ p → at' r p = at' xs (swf a b n p)) ?_ _ _ ⟨⟨by dsimp only; omega, by dsimp only; omega⟩, rfl, fun p hp => by congr 1; simp only [swf]; split <;> (try split) <;> omega⟩ (by dsimp only; omega)
  rintro rec ⟨ys, i⟩ ⟨⟨h0, h1⟩, hl, hI⟩ ih
  dsimp only at h0 h1 hl hI
  simp only [m_slices_swapRangeCmpFunc_string_b1]
  by_cases hi : i < n
  · simp only [hi, decide_true, Bool.cond_true]
    refine ih _ ⟨⟨by dsimp only; omega, by dsimp only; omega⟩, by rw [← hl]; exact sw_len, fun p hp => ?_⟩ (by dsimp only; omega)
    dsimp only
    rw [sw_at (by omega) (by omega) hp]
    rw [hI _ (by simp only [tr]; split <;> (try split) <;> omega)]
    congr 1
    simp only [swf, tr]
    repeat' split
    all_goals omega
  · simp only [hi, decide_false, Bool.cond_false]
    have : i = n := by omega
    subst this
    exact ⟨hl, hI⟩
theorem swap_len {xs : List Txt} {a b n : Int} {cmp : Txt → Txt → Int} (h : 0 ≤ a ∧ 0 ≤ n ∧ a + n ≤ b ∧ b + n ≤ xs.length) : (m_slices_swapRangeCmpFunc_string xs a b n cmp).length = xs.length := (swap_spec h).1
/-! ### Two neighbouring stretches change places -/
def rotf (a m b p : Int) : Int := if a ≤ p ∧ p < a + (b - m) then p + (m - a) else if a + (b - m) ≤ p ∧ p < b then p - (b - m) else p
theorem rot_spec {xs : List Txt} {a m b : Int} {cmp : Txt → Txt → Int} (h : 0 ≤ a ∧ a < m ∧ m < b ∧ b ≤ xs.length) : (m_slices_rotateCmpFunc_string xs a m b cmp).length = xs.length ∧ ∀ p, 0 ≤ p → at' (m_slices_rotateCmpFunc_string xs a m b cmp) p = at' xs (rotf a m b p) := by
  simp only [m_slices_rotateCmpFunc_string]
  refine LOOP_post (b := m_slices_rotateCmpFunc_string_b1 xs a m b cmp) (k := fun x1 => m_slices_swapRangeCmpFunc_string x1.1 (m - x1.2.1) m x1.2.1 cmp) (fun x => (0 < x.2.1 ∧ x.2.1 ≤ m - a) ∧ (0 < x.2.2 ∧ x.2.2 ≤ b - m) ∧ x.1.length = xs.length ∧ ∀ p, 0 ≤ p → at' x.1 (rotf (m - x.2.1) m (m + x.2.2) p) = at' xs (rotf a m b p)) (fun x => (x.2.1 + x.2.2).toNat) (fun _ r => r.length = xs.length ∧ ∀ p, 0 ≤ p → at' r p = at' xs (rotf a m b p)) ?_ _ _
    ⟨by dsimp only; omega, by dsimp only; omega, rfl, fun p hp => by rw [show m - (m - a) = a by omega, show m + (b - m) = b by omega]⟩ (by dsimp only; omega)
  rintro rec ⟨ys, i, j⟩ ⟨⟨h0, h1⟩, ⟨h2, h3⟩, hl, hI⟩ ih
  dsimp only at h0 h1 h2 h3 hl hI
  simp only [m_slices_rotateCmpFunc_string_b1]
  by_cases hij : i = j
  · subst hij
    simp only [bne_self_eq_false, Bool.cond_false]
    have hs := swap_spec (xs := ys) (a := m - i) (b := m) (n := i) (cmp := cmp) (by omega)
    refine ⟨hs.1.trans hl, fun p hp => ?_⟩
    rw [hs.2 p hp, ← hI p hp]
    congr 1
    simp only [swf, rotf]
    repeat' split
    all_goals omega
  · have e : (i != j) = true := by simp [hij]
    simp only [e, Bool.cond_true]
    by_cases hlt : j < i
    · simp only [hlt, decide_true, Bool.cond_true]
      have hs := swap_spec (xs := ys) (a := m - i) (b := m) (n := j) (cmp := cmp) (by omega)
      refine ih _ ⟨by dsimp only; omega, by dsimp only; omega, hs.1.trans hl, fun p hp => ?_⟩ (by dsimp only; omega)
      dsimp only
      rw [hs.2 _ (by simp only [rotf]; split <;> (try split) <;> omega), ← hI p hp]
      congr 1
      simp only [swf, rotf]
      repeat' split
      all_goals omega
    · simp only [hlt, decide_false, Bool.cond_false]
      have hs := swap_spec (xs := ys) (a := m - i) (b := m + j - i) (n := i) (cmp := cmp) (by omega)
      refine ih _ ⟨by dsimp only; omega, by dsimp only; omega, hs.1.trans hl, fun p hp => ?_⟩ (by dsimp only; omega)
      dsimp only
      rw [hs.2 _ (by simp only [rotf]; split <;> (try split) <;> omega), ← hI p hp]
      congr 1
      simp only [swf, rotf]
      repeat' split
      all_goals omega
/-! ### Order by a key, then by name -/
def LT (key : Txt → Int) (x y : Txt) : Prop := key x < key y ∨ (key x = key y ∧ x < y)
theorem LT.le {key : Txt → Int} {x y : Txt} (h : LT key x y) : key x ≤ key y := by
  rcases h with h | h
  · omega
  · omega
theorem LT.of {key : Txt → Int} {x y : Txt} (h : key x ≤ key y) (hn : x < y) : LT key x y := by
  by_cases e : key x = key y
  · exact .inr ⟨e, hn⟩
  · exact .inl (by omega)
def Srt (key : Txt → Int) (xs : List Txt) (a b : Int) : Prop := ∀ i j, a ≤ i → i < j → j < b → LT key (at' xs i) (at' xs j)
def Nms (xs : List Txt) (a m b : Int) : Prop := ∀ i j, a ≤ i → i < m → m ≤ j → j < b → at' xs i < at' xs j
/-- the same, but for the order within a stretch -/
structure Seg (ys xs : List Txt) (a b : Int) : Prop where
  len : ys.length = xs.length
  out : ∀ p, 0 ≤ p → p < a ∨ b ≤ p → at' ys p = at' xs p
  sub : ∀ p, a ≤ p → p < b → ∃ q, (a ≤ q ∧ q < b) ∧ at' ys p = at' xs q
  sup : ∀ q, a ≤ q → q < b → ∃ p, (a ≤ p ∧ p < b) ∧ at' ys p = at' xs q
theorem Seg.refl (xs : List Txt) (a b : Int) : Seg xs xs a b := ⟨rfl, fun _ _ _ => rfl, fun p h1 h2 => ⟨p, ⟨h1, h2⟩, rfl⟩, fun p h1 h2 => ⟨p, ⟨h1, h2⟩, rfl⟩⟩
theorem Seg.trans {zs ys xs : List Txt} {a b : Int} (h : Seg zs ys a b) (g : Seg ys xs a b) : Seg zs xs a b :=
  ⟨h.len.trans g.len, fun p h0 hp => (h.out p h0 hp).trans (g.out p h0 hp), fun p h1 h2 => by
    obtain ⟨q, hq, e⟩ := h.sub p h1 h2
    obtain ⟨r, hr, e2⟩ := g.sub q hq.1 hq.2
    exact ⟨r, hr, e.trans e2⟩, fun q h1 h2 => by
    obtain ⟨p, hp, e⟩ := g.sup q h1 h2
    obtain ⟨r, hr, e2⟩ := h.sup p hp.1 hp.2
    exact ⟨r, hr, e2.trans e⟩⟩
theorem Seg.wide {ys xs : List Txt} {a b a' b' : Int} (h : Seg ys xs a b) (h0 : 0 ≤ a') (h1 : a' ≤ a) (h2 : b ≤ b') : Seg ys xs a' b' :=
  ⟨h.len, fun p hp hq => h.out p hp (by omega), fun p g1 g2 => by
    by_cases hin : a ≤ p ∧ p < b
    · obtain ⟨q, hq, e⟩ := h.sub p hin.1 hin.2; exact ⟨q, by omega, e⟩
    · exact ⟨p, by omega, h.out p (by omega) (by omega)⟩, fun p g1 g2 => by
    by_cases hin : a ≤ p ∧ p < b
    · obtain ⟨q, hq, e⟩ := h.sup p hin.1 hin.2; exact ⟨q, by omega, e⟩
    · exact ⟨p, by omega, h.out p (by omega) (by omega)⟩⟩
theorem Seg.of {ys xs : List Txt} {a b : Int} (f g : Int → Int) (hl : ys.length = xs.length) (h0 : 0 ≤ a) (hf : ∀ p, 0 ≤ p → at' ys p = at' xs (f p)) (ho : ∀ p, p < a ∨ b ≤ p → f p = p) (hi : ∀ p, a ≤ p → p < b → a ≤ f p ∧ f p < b) (hg : ∀ q, a ≤ q → q < b → (a ≤ g q ∧ g q < b) ∧ f (g q) = q) : Seg ys xs a b :=
  ⟨hl, fun p hp hq => by rw [hf p hp, ho p hq], fun p h1 h2 => ⟨f p, hi p h1 h2, hf p (by omega)⟩, fun q h1 h2 => ⟨g q, (hg q h1 h2).1, by rw [hf _ (by have := (hg q h1 h2).1; omega), (hg q h1 h2).2]⟩⟩
theorem Seg.mem {ys xs : List Txt} {a b : Int} (h : Seg ys xs a b) (h0 : 0 ≤ a) (hb : b ≤ xs.length) : ∀ e ∈ ys, e ∈ xs := fun e he => by
  obtain ⟨j, hj, rfl⟩ := List.mem_iff_getElem.1 he
  have h2 : at' ys (j : Int) = ys[j] := by simp [at', List.getD_eq_getElem?_getD, hj]
  rw [← h2]
  have hl := h.len
  by_cases hin : a ≤ (j : Int) ∧ (j : Int) < b
  · obtain ⟨q, hq, e⟩ := h.sub j hin.1 hin.2
    rw [e]; exact at_mem ⟨by omega, by omega⟩
  · rw [h.out j (by omega) (by omega)]; exact at_mem ⟨by omega, by omega⟩
theorem Srt.congr {key : Txt → Int} {ys xs : List Txt} {a b : Int} (h : Srt key xs a b) (he : ∀ p, a ≤ p → p < b → at' ys p = at' xs p) : Srt key ys a b := fun i j h1 h2 h3 => by
  rw [he i h1 (by omega), he j (by omega) h3]; exact h i j h1 h2 h3
/-! ### Insertion -/
def insf (j i p : Int) : Int := if p = j then i else if j < p ∧ p ≤ i then p - 1 else p
theorem ins_spec {xs : List Txt} {a b : Int} {cmp : Txt → Txt → Int} {key : Txt → Int} (hc : ∀ x y, cmp x y < 0 ↔ key x < key y) (h : 0 ≤ a ∧ a ≤ b ∧ b ≤ xs.length) :
    Seg (m_slices_insertionSortCmpFunc_string xs a b cmp) xs a b ∧ ((∀ i j, a ≤ i → i < j → j < b → at' xs i < at' xs j) → Srt key (m_slices_insertionSortCmpFunc_string xs a b cmp) a b) := by
  simp only [m_slices_insertionSortCmpFunc_string]
  refine LOOP_post (b := m_slices_insertionSortCmpFunc_string_b1 xs a b cmp) (k := fun x1 => x1.1) (fun x => a < x.2 ∧ (x.2 ≤ b ∨ x.2 = a + 1) ∧ Seg x.1 xs a (min x.2 b) ∧ ((∀ i j, a ≤ i → i < j → j < b → at' xs i < at' xs j) → Srt key x.1 a (min x.2 b))) (fun x => (b - x.2).toNat) (fun _ r => Seg r xs a b ∧ ((∀ i j, a ≤ i → i < j → j < b → at' xs i < at' xs j) → Srt key r a b)) ?_ _ _
    ⟨by dsimp only; omega, by dsimp only; omega, Seg.refl _ _ _, fun _ i j h1 h2 h3 => by dsimp only at h3; omega⟩ (by dsimp only; omega)
  rintro rec ⟨ys, i⟩ ⟨h1, h2, hS, hs⟩ ih
  dsimp only at h1 h2 hS hs
  simp only [m_slices_insertionSortCmpFunc_string_b1]
  by_cases hi : i < b
  · simp only [hi, decide_true, Bool.cond_true]
    rw [show min i b = i by omega] at hS hs
    have hl := hS.len
    refine LOOP_post (b := m_slices_insertionSortCmpFunc_string_b2 xs a b cmp rec (fun x1 => x1.1) (ys, i)) (k := fun x2 => rec (x2.1, i + 1)) (fun x => (a ≤ x.2 ∧ x.2 ≤ i) ∧ x.1.length = ys.length ∧ (∀ p, 0 ≤ p → at' x.1 p = at' ys (insf x.2 i p)) ∧ ∀ p, x.2 < p → p ≤ i → key (at' ys i) < key (at' x.1 p)) (fun x => x.2.toNat) (fun _ r => Seg r xs a b ∧ ((∀ i j, a ≤ i → i < j → j < b → at' xs i < at' xs j) → Srt key r a b)) ?_ _ _
      ⟨by dsimp only; omega, rfl, fun p hp => by congr 1; simp only [insf]; split <;> (try split) <;> omega, fun p g1 g2 => by dsimp only at g1; omega⟩ (by dsimp only; omega)
    rintro rec2 ⟨zs, j⟩ ⟨⟨g0, g1⟩, g2, g3, g4⟩ ih2
    dsimp only at g0 g1 g2 g3 g4
    simp only [m_slices_insertionSortCmpFunc_string_b2]
    have hx : at' zs j = at' ys i := by rw [g3 j (by omega)]; simp [insf]
    by_cases hcond : a < j ∧ cmp (at' zs j) (at' zs (j - 1)) < 0
    · simp only [hcond.1, hcond.2, decide_true, Bool.and_self, Bool.cond_true]
      have hk : key (at' ys i) < key (at' zs (j - 1)) := by rw [← hx]; exact (hc _ _).1 hcond.2
      have sw : ∀ p, 0 ≤ p → at' (put' (put' zs j (at' zs (j - 1))) (j - 1) (at' zs j)) p = at' zs (tr j (j - 1) p) := fun p hp => sw_at (by omega) (by omega) hp
      refine ih2 _ ⟨by dsimp only; omega, by dsimp only; rw [← g2]; exact sw_len, fun p hp => ?_, fun p e1 e2 => ?_⟩ (by dsimp only; omega)
      · dsimp only
        rw [sw p hp, g3 _ (by simp only [tr]; split <;> (try split) <;> omega)]
        congr 1
        simp only [insf, tr]
        repeat' split
        all_goals omega
      · dsimp only at e1 ⊢
        rw [sw p (by omega)]
        by_cases e3 : p = j
        · rw [show tr j (j - 1) p = j - 1 by simp only [tr]; split <;> (try split) <;> omega]; exact hk
        · rw [show tr j (j - 1) p = p by simp only [tr]; split <;> (try split) <;> omega]; exact g4 p (by omega) e2
    · have : (decide (a < j) && decide (cmp (at' zs j) (at' zs (j - 1)) < 0)) = false := by
        by_cases e1 : a < j
        · have : ¬ cmp (at' zs j) (at' zs (j - 1)) < 0 := fun e2 => hcond ⟨e1, e2⟩
          simp [this]
        · simp [e1]
      simp only [this, Bool.cond_false]
      have hZ : Seg zs ys a (i + 1) := Seg.of (insf j i) (fun q => if q = i then j else if j ≤ q ∧ q < i then q + 1 else q) g2 h.1 g3 (fun p hp => by simp only [insf]; split <;> (try split) <;> omega) (fun p e1 e2 => by simp only [insf]; split <;> (try split) <;> omega)
        (fun q e1 e2 => by
          simp only [insf]
          refine ⟨?_, ?_⟩
          · split <;> (try split) <;> omega
          · repeat' split
            all_goals omega)
      refine ih _ ⟨by dsimp only; omega, .inl (by dsimp only; omega), ?_, fun hN => ?_⟩ (by dsimp only; omega)
      · dsimp only
        rw [show min (i + 1) b = i + 1 by omega]
        exact hZ.trans (hS.wide h.1 (by omega) (by omega))
      · dsimp only
        rw [show min (i + 1) b = i + 1 by omega]
        have hys := hs hN
        have hle : ∀ p, a ≤ p → p < j → key (at' ys p) ≤ key (at' ys i) := fun p e1 e2 => by
          have hj : ¬ key (at' ys i) < key (at' ys (j - 1)) := fun e3 => hcond ⟨by omega, (hc _ _).2 (by rw [hx, g3 (j - 1) (by omega), show insf j i (j - 1) = j - 1 by simp only [insf]; split <;> (try split) <;> omega]; exact e3)⟩
          by_cases e4 : p = j - 1
          · subst e4; omega
          · have := (hys p (j - 1) e1 (by omega) (by omega)).le; omega
        have hnm : ∀ p, a ≤ p → p < i → at' ys p < at' ys i := fun p e1 e2 => by
          obtain ⟨q, hq, e⟩ := hS.sub p e1 e2
          rw [e, hS.out i (by omega) (by omega)]
          exact hN q i hq.1 hq.2 hi
        intro p q e1 e2 e3
        by_cases c1 : q < j
        · rw [g3 p (by omega), g3 q (by omega), show insf j i p = p by simp only [insf]; split <;> (try split) <;> omega, show insf j i q = q by simp only [insf]; split <;> (try split) <;> omega]
          exact hys p q e1 e2 (by omega)
        · by_cases c2 : q = j
          · subst c2
            rw [hx, g3 p (by omega), show insf q i p = p by simp only [insf]; split <;> (try split) <;> omega]
            exact LT.of (hle p e1 e2) (hnm p e1 (by omega))
          · by_cases c3 : p = j
            · subst c3
              rw [hx]; exact .inl (g4 q (by omega) (by omega))
            · rw [g3 p (by omega), g3 q (by omega), show insf j i q = q - 1 by simp only [insf]; split <;> (try split) <;> omega]
              by_cases c4 : p < j
              · rw [show insf j i p = p by simp only [insf]; split <;> (try split) <;> omega]; exact hys p (q - 1) e1 (by omega) (by omega)
              · rw [show insf j i p = p - 1 by simp only [insf]; split <;> (try split) <;> omega]; exact hys (p - 1) (q - 1) (by omega) (by omega) (by omega)
  · simp only [hi, decide_false, Bool.cond_false]
    rw [show min i b = b by omega] at hS hs
    exact ⟨hS, hs⟩

end Go.Proofs.Ytbflomopgofkgaa
