/-
  PLAIN LAWS about the models: no program in sight. Conditions: as each theorem states them.
-/
import Derived.Test.YtbeppnhplglocaaExactSpreadChecksPlain5
set_option linter.unusedVariables false
set_option linter.unusedSimpArgs false
set_option linter.unusedSectionVars false
set_option linter.unnecessarySimpa false
namespace Go.Proofs.Ytbeppnhplglocaa
open Go Go.RowKit Go.Proofs Go.Proofs.Ytbeppnhplglocaa.E
/-! ## A stable sort of places by a key: one block -/
def lexI (g : Int → Int) (a b : Int) : Prop := g a < g b ∨ (g a = g b ∧ a < b)
theorem lexI.trans {g : Int → Int} {a b c : Int} (h1 : lexI g a b) (h2 : lexI g b c) : lexI g a c := by
  unfold lexI at *; omega
def keyc (g : Int → Int) (cmp : Int → Int → Int) : Prop := ∀ a b, cmp a b < 0 ↔ g a < g b
structure InsI (g : Int → Int) (n : Nat) (xs : List Int) (i : Int) (j : Int) : Prop where
  len : xs.length = n
  rng : 0 ≤ j ∧ j ≤ i ∧ i < n
  val : at' xs j = i
  low : ∀ q, 0 ≤ q → q ≤ i → q ≠ j → 0 ≤ at' xs q ∧ at' xs q < i
  srt : ∀ p q, 0 ≤ p → p < q → q ≤ i → p ≠ j → q ≠ j → lexI g (at' xs p) (at' xs q)
  abv : ∀ q, j < q → q ≤ i → lexI g i (at' xs q)
  rst : ∀ q, i < q → q < n → at' xs q = q
  sur : ∀ x, 0 ≤ x → x < (n : Int) → ∃ q, 0 ≤ q ∧ q < (n : Int) ∧ at' xs q = x
structure SrtI (g : Int → Int) (n : Nat) (xs : List Int) (i : Int) : Prop where
  len : xs.length = n
  rng : 0 ≤ i ∧ i ≤ n
  low : ∀ q, 0 ≤ q → q < i → 0 ≤ at' xs q ∧ at' xs q < i
  srt : ∀ p q, 0 ≤ p → p < q → q < i → lexI g (at' xs p) (at' xs q)
  rst : ∀ q, i ≤ q → q < n → at' xs q = q
  sur : ∀ x, 0 ≤ x → x < (n : Int) → ∃ q, 0 ≤ q ∧ q < (n : Int) ∧ at' xs q = x
theorem SrtI.start {g : Int → Int} {n : Nat} {xs : List Int} {i : Int} (h : SrtI g n xs i) (hi : i < n) : InsI g n xs i i where
  len := h.len
  rng := ⟨h.rng.1, Int.le_refl _, hi⟩
  val := h.rst i (Int.le_refl _) hi
  low := fun q h1 h2 h3 => h.low q h1 (by omega)
  srt := fun p q h1 h2 h3 h4 h5 => h.srt p q h1 h2 (by omega)
  abv := fun q h1 h2 => by omega
  rst := fun q h1 h2 => h.rst q (by omega) h2
  sur := h.sur
theorem InsI.done {g : Int → Int} {n : Nat} {xs : List Int} {i j : Int} (h : InsI g n xs i j) (hd : 0 < j → ¬ g (at' xs j) < g (at' xs (j - 1))) : SrtI g n xs (i + 1) where
  len := h.len
  rng := ⟨by have := h.rng; omega, by have := h.rng; omega⟩
  low := fun q h1 h2 => by
    by_cases e : q = j
    · subst e; rw [h.val]; have := h.rng; omega
    · have := h.low q h1 (by omega) e; omega
  srt := fun p q h1 h2 h3 => by
    by_cases e1 : p = j
    · subst e1; rw [h.val]; exact h.abv q h2 (by omega)
    · by_cases e2 : q = j
      · subst e2
        have hd' := hd (by omega)
        have hl := h.low (q - 1) (by omega) (by have := h.rng; omega) (by omega)
        have h9 : lexI g (at' xs (q - 1)) (at' xs q) := by
          rw [h.val] at hd' ⊢; unfold lexI; omega
        by_cases e3 : p = q - 1
        · subst e3; exact h9
        · exact (h.srt p (q - 1) h1 (by omega) (by have := h.rng; omega) e1 (by omega)).trans h9
      · exact h.srt p q h1 h2 (by omega) e1 e2
  rst := fun q h1 h2 => h.rst q (by omega) h2
  sur := h.sur
theorem InsI.step {g : Int → Int} {n : Nat} {xs : List Int} {i j : Int} (h : InsI g n xs i j) (hj : 0 < j) (hd : g (at' xs j) < g (at' xs (j - 1))) : InsI g n (put' (put' xs j (at' xs (j - 1))) (j - 1) (at' xs j)) i (j - 1) := by
  have hr := h.rng
  have hl := h.len
  have sw := fun q hq => swap_at (xs := xs) (i := j) (j := j - 1) (by omega) (by omega) (by omega) q hq
  refine ⟨by rw [put_len, put_len, hl], by omega, ?_, fun q h1 h2 h3 => ?_, fun p q h1 h2 h3 h4 h5 => ?_, fun q h1 h2 => ?_, fun q h1 h2 => ?_, fun x h1 h2 => ?_⟩
  · rw [sw (j - 1) (by omega), if_pos rfl]; exact h.val
  · rw [sw q h1, if_neg h3]
    by_cases e : q = j
    · rw [if_pos e]; exact h.low (j - 1) (by omega) (by omega) (by omega)
    · rw [if_neg e]; exact h.low q h1 h2 e
  · rw [sw p h1, sw q (by omega), if_neg h4, if_neg h5]
    by_cases e1 : p = j
    · rw [if_pos e1, if_neg (by omega)]
      exact h.srt (j - 1) q (by omega) (by omega) h3 (by omega) (by omega)
    · rw [if_neg e1]
      by_cases e2 : q = j
      · rw [if_pos e2]; exact h.srt p (j - 1) h1 (by omega) (by omega) e1 (by omega)
      · rw [if_neg e2]; exact h.srt p q h1 h2 h3 e1 e2
  · rw [sw q (by omega), if_neg (by omega)]
    by_cases e : q = j
    · rw [if_pos e, ← h.val]; exact .inl hd
    · rw [if_neg e]; exact h.abv q (by omega) h2
  · rw [sw q (by omega), if_neg (by omega), if_neg (by omega)]; exact h.rst q h1 h2
  · obtain ⟨q, h3, h4, h5⟩ := h.sur x h1 h2
    by_cases e1 : q = j
    · exact ⟨j - 1, by omega, by omega, by rw [sw (j - 1) (by omega), if_pos rfl, ← h5, e1]⟩
    · by_cases e2 : q = j - 1
      · exact ⟨j, by omega, by omega, by rw [sw j (by omega), if_neg (by omega), if_pos rfl, ← h5, e2]⟩
      · exact ⟨q, h3, h4, by rw [sw q h3, if_neg e2, if_neg e1, h5]⟩
theorem ins_is {g : Int → Int} {cmp : Int → Int → Int} (hc : keyc g cmp) {n : Nat} {data : List Int} (hn : n ≤ 1000) (h0 : SrtI g n data 1) : SrtI g n (m_slices_insertionSortCmpFunc_int data 0 n cmp) n := by
  simp only [m_slices_insertionSortCmpFunc_int]
  rw [show IntKind.wrap .i64 ((0 : Int) + 1) = 1 by rw [wr64 (by omega)]; rfl]
  refine LOOP_post (fun (x : List Int × Int) => SrtI g n x.1 x.2 ∧ 1 ≤ x.2) (fun x => ((n : Int) - x.2).toNat) (fun _ (r : List Int) => SrtI g n r n) (fun rec x hI ih => ?_) _ _ ⟨h0, by simp⟩ (by simp)
  obtain ⟨xs, i⟩ := x
  obtain ⟨hS, h1⟩ := hI
  simp only at hS h1
  simp only [m_slices_insertionSortCmpFunc_int_b1]
  by_cases hi : i < (n : Int)
  · simp only [hi, decide_true, Bool.cond_true]
    refine LOOP_post (fun (x : List Int × Int) => InsI g n x.1 i x.2) (fun x => x.2.toNat) (fun _ (r : List Int) => SrtI g n r n) (fun rec2 x hI ih2 => ?_) _ _ (hS.start hi) (by simp only; omega)
    obtain ⟨ys, j⟩ := x
    simp only at hI
    simp only [m_slices_insertionSortCmpFunc_int_b2]
    by_cases hd : 0 < j ∧ cmp (at' ys j) (at' ys (j - 1)) < 0
    · simp only [hd.1, hd.2, decide_true, Bool.and_true, Bool.cond_true]
      exact ih2 _ (hI.step hd.1 ((hc _ _).1 hd.2)) (by simp only; omega)
    · have : ((decide (0 < j)) && (decide (cmp (at' ys j) (at' ys (j - 1)) < 0))) = false := by
        rw [Bool.eq_false_iff]; simpa using hd
      rw [this]
      simp only [Bool.cond_false]
      exact ih _ ⟨hI.done (fun hj hg => hd ⟨hj, (hc _ _).2 hg⟩), by simp only; omega⟩ (by simp only; omega)
  · have he : i = n := by have := hS.rng; omega
    subst he
    simp only [hi, decide_false, Bool.cond_false]
    exact hS
theorem SrtI.inj {g : Int → Int} {n : Nat} {L : List Int} (h : SrtI g n L n) {p q : Int} (hp : 0 ≤ p ∧ p < n) (hq : 0 ≤ q ∧ q < n) (e : at' L p = at' L q) : p = q := by
  rcases Int.lt_trichotomy p q with h1 | h1 | h1
  · have := h.srt p q hp.1 h1 hq.2; rw [e] at this; unfold lexI at this; omega
  · exact h1
  · have := h.srt q p hq.1 h1 hp.2; rw [e] at this; unfold lexI at this; omega
theorem ins_all {R : Int → Prop} {cmp : Int → Int → Int} {data : List Int} {n : Int} (h : ∀ x ∈ data, R x) (hn : 0 ≤ n ∧ n ≤ data.length) (hd : data.length ≤ 1000) : (m_slices_insertionSortCmpFunc_int data 0 n cmp).length = data.length ∧ ∀ x ∈ m_slices_insertionSortCmpFunc_int data 0 n cmp, R x := by
  simp only [m_slices_insertionSortCmpFunc_int]
  rw [show IntKind.wrap .i64 ((0 : Int) + 1) = 1 by rw [wr64 (by omega)]; rfl]
  refine LOOP_post (fun (x : List Int × Int) => (x.1.length = data.length ∧ ∀ y ∈ x.1, R y) ∧ 1 ≤ x.2) (fun x => ((n : Int) - x.2).toNat) (fun _ (r : List Int) => r.length = data.length ∧ ∀ y ∈ r, R y) (fun rec x hI ih => ?_) _ _ ⟨⟨rfl, h⟩, by simp⟩ (by simp only; omega)
  obtain ⟨xs, i⟩ := x
  obtain ⟨⟨hl, hA⟩, h1⟩ := hI
  simp only at hl hA h1
  simp only [m_slices_insertionSortCmpFunc_int_b1]
  by_cases hi : i < n
  · simp only [hi, decide_true, Bool.cond_true]
    refine LOOP_post (fun (x : List Int × Int) => (x.1.length = data.length ∧ ∀ y ∈ x.1, R y) ∧ 0 ≤ x.2 ∧ x.2 ≤ i) (fun x => x.2.toNat) (fun _ (r : List Int) => r.length = data.length ∧ ∀ y ∈ r, R y) (fun rec2 x hI ih2 => ?_) _ _ ⟨⟨hl, hA⟩, by simp only; omega⟩ (by simp only; omega)
    obtain ⟨ys, j⟩ := x
    obtain ⟨⟨gl, gA⟩, g1, g2⟩ := hI
    simp only at gl gA g1 g2
    simp only [m_slices_insertionSortCmpFunc_int_b2]
    by_cases hd : 0 < j ∧ cmp (at' ys j) (at' ys (j - 1)) < 0
    · simp only [hd.1, hd.2, decide_true, Bool.and_true, Bool.cond_true]
      exact ih2 _ ⟨⟨by simp only [put_len]; exact gl, swap_all gA (by omega) (by omega) (by omega)⟩, by simp only; omega⟩ (by simp only; omega)
    · have : ((decide (0 < j)) && (decide (cmp (at' ys j) (at' ys (j - 1)) < 0))) = false := by
        rw [Bool.eq_false_iff]; simpa using hd
      rw [this]
      simp only [Bool.cond_false]
      exact ih _ ⟨⟨gl, gA⟩, by simp only; omega⟩ (by simp only; omega)
  · simp only [hi, decide_false, Bool.cond_false]
    exact ⟨hl, hA⟩
theorem ins_len {cmp : Int → Int → Int} {data : List Int} {n : Int} (hn : 0 ≤ n ∧ n ≤ data.length) (hd : data.length ≤ 1000) : (m_slices_insertionSortCmpFunc_int data 0 n cmp).length = data.length := (ins_all (R := fun _ => True) (fun _ _ => trivial) hn hd).1
theorem stable_all {R : Int → Prop} {cmp : Int → Int → Int} {data : List Int} (h : ∀ x ∈ data, R x) (hd : data.length ≤ 1000) : (m_slices_SortStableFunc_int data cmp).length = data.length ∧ ∀ x ∈ m_slices_SortStableFunc_int data cmp, R x :=
  ins_all (n := (data.length : Int)) h (by omega) hd
theorem stable_len {cmp : Int → Int → Int} {data : List Int} (hd : data.length ≤ 1000) : (m_slices_SortStableFunc_int data cmp).length = data.length := (stable_all (R := fun _ => True) (fun _ _ => trivial) hd).1
theorem stable_mem {R : Int → Prop} {cmp : Int → Int → Int} {data : List Int} {i : Int} (h : ∀ x ∈ data, R x) (hd : data.length ≤ 1000) (hi : 0 ≤ i ∧ i < data.length) : R (at' (m_slices_SortStableFunc_int data cmp) i) :=
  at_all (stable_all h hd).2 (by rw [stable_len hd]; exact hi)

end Go.Proofs.Ytbeppnhplglocaa
