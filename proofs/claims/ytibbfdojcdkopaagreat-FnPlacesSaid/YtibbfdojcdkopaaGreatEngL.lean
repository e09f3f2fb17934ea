/-
  THE PLAIN LAWS' TOOLS: what the model's loops come to. No program in sight.
-/
import Derived.Test.YtibbfdojcdkopaaGreatEngK
import Derived.Laws.BitsLemmas
set_option linter.unusedVariables false
set_option linter.unusedSimpArgs false
set_option linter.unusedSectionVars false
set_option linter.unnecessarySimpa false
namespace Go.Proofs.YtibbfdojcdkopaaGreat.E
open Go Go.RowKit

theorem wr64 {n : Int} (h : -9223372036854775808 ≤ n ∧ n ≤ 9223372036854775807) : IntKind.wrap .i64 n = n := by
  rw [show IntKind.wrap .i64 n = (n + 9223372036854775808) % 18446744073709551616 - 9223372036854775808 from IntKind.wrap_i64 n]
  omega
theorem at_lt {α : Type} [Inhabited α] {xs : List α} {j : Nat} (h : j < xs.length) : at' xs (j : Int) = xs[j] := by
  simp [at', List.getD_eq_getElem?_getD, List.getElem?_eq_getElem h]
theorem all_at {α : Type} [Inhabited α] {xs : List α} {Q : α → Prop} : (∀ x ∈ xs, Q x) ↔ ∀ j : Nat, j < xs.length → Q (at' xs j) := by
  constructor
  · intro h j hj
    exact at_all h ⟨by omega, by omega⟩
  · intro h x hx
    obtain ⟨j, hj, e⟩ := List.mem_iff_getElem.1 hx
    rw [← e, ← at_lt hj]; exact h j hj

/-- a loop that looks at the places from i on, and ends with 'false' at the first bad one -/
theorem LOOP_all {b : (Int → Bool) → (Int → Bool) → Int → Bool} {n : Nat} {bad : Int → Bool} (hb : ∀ rec k i, 0 ≤ i → b rec k i = bif decide (i < (n : Int)) then (bif bad i then false else rec (i + 1)) else k i) {k : Int → Bool} :
    ∀ (fuel : Nat) (i : Int), 0 ≤ i → i ≤ n → ((n : Int) - i).toNat < fuel → (LOOP b k fuel i = true ↔ (∀ j : Nat, i ≤ j → j < n → bad j = false) ∧ k n = true)
  | 0, i, _, _, h => by omega
  | m + 1, i, h0, hn, hm => by
    simp only [LOOP]
    rw [hb _ _ _ h0]
    by_cases hi : i < (n : Int)
    · simp only [hi, decide_true, cond_true]
      cases hbad : bad i with
      | true =>
        simp only [cond_true, Bool.false_eq_true, false_iff]
        rintro ⟨h, _⟩
        have := h i.toNat (by omega) (by omega)
        rw [show ((i.toNat : Nat) : Int) = i by omega, hbad] at this
        simp at this
      | false =>
        simp only [cond_false]
        rw [LOOP_all hb m (i + 1) (by omega) (by omega) (by omega)]
        constructor
        · rintro ⟨h1, h2⟩
          refine ⟨fun j hj hjn => ?_, h2⟩
          by_cases hji : (j : Int) = i
          · rw [hji]; exact hbad
          · exact h1 j (by omega) hjn
        · rintro ⟨h1, h2⟩
          exact ⟨fun j hj hjn => h1 j (by omega) hjn, h2⟩
    · have : i = n := by omega
      subst this
      simp only [hi, decide_false, cond_false]
      constructor
      · intro h; exact ⟨fun j hj hjn => by omega, h⟩
      · intro h; exact h.2
/-- what a loop ends with -/
theorem LOOP_post {ι ρ : Type} {b : (ι → ρ) → (ι → ρ) → ι → ρ} {k : ι → ρ} (I : ι → Prop) (μ : ι → Nat) (Q : ι → ρ → Prop)
    (hs : ∀ rec x, I x → (∀ y, I y → μ y < μ x → Q y (rec y)) → Q x (b rec k x)) : ∀ (f : Nat) (x : ι), I x → μ x < f → Q x (LOOP b k f x)
  | 0, _, _, h => by omega
  | f + 1, x, hI, h => hs _ _ hI fun y hy l => LOOP_post I μ Q hs f y hy (by omega)
/-- a loop that comes to a known value -/
theorem LOOP_is {ι ρ : Type} {b : (ι → ρ) → (ι → ρ) → ι → ρ} {k : ι → ρ} (I : ι → Prop) (μ : ι → Nat) (F : ι → ρ)
    (hs : ∀ rec x, I x → (∀ y, I y → μ y < μ x → rec y = F y) → b rec k x = F x) {f : Nat} {x : ι} (hI : I x) (h : μ x < f) : LOOP b k f x = F x :=
  LOOP_post I μ (fun x r => r = F x) hs f x hI h
theorem put_at {α : Type} [Inhabited α] {xs : List α} {i : Int} {w : α} (h : 0 ≤ i ∧ i < xs.length) : at' (put' xs i w) i = w := by
  have hl : i.toNat < xs.length := by omega
  simp [at', put', List.getD_eq_getElem?_getD, hl]
theorem put_at_ne {α : Type} [Inhabited α] {xs : List α} {i j : Int} {w : α} (hi : 0 ≤ i) (hj : 0 ≤ j) (h : i ≠ j) : at' (put' xs i w) j = at' xs j := by
  have hl : i.toNat ≠ j.toNat := by omega
  simp [at', put', List.getD_eq_getElem?_getD, List.getElem?_set, hl]
section
variable {P : Program} {n : Nat} {ops : Array Oper}
variable {s s' : S} {r : List Oper} {bs : List A} {g : Bool} {gks : List Nat} {d : Nat} {ty : TypeId} {pos : String} {af : Array Edge} {gd : Option (Nat × Bool)}
variable {α : Type} {f : α → V} {xs : List α} {m : Int}
end
section
variable {P : Program} {n : Nat} {ops : Array Oper}
variable {s s' : S} {r : List Oper} {bs : List A} {g : Bool} {gks : List Nat}
theorem loc_of {o : Oper} {b : A} {s1 : S} (h : Lex P n ops [o] s [b] s1) : Loc P n ops s o b := by
  obtain ⟨b', bs', e, hl, _⟩ := h
  injection e with e1 e2
  subst e1; exact hl
theorem Loc.congr {o : Oper} {kt kh nw : List Nat} {wt : List (Nat × Option En)} {wh wh' : List (Nat × Option O)} (hw : ∀ H x, get (wh ++ H) x = get (wh' ++ H) x) (h : Loc P n ops s o ⟨kt, kh, nw, wt, wh⟩) : Loc P n ops s o ⟨kt, kh, nw, wt, wh'⟩ := by
  intro s1 ht hh hf c κ a w hc hs K Q hK
  exact h s1 ht hh hf c κ a w hc hs K Q fun a' w' κ' hs' => hK a' w' κ' (Sat.congr (s := s1.upd ⟨kt, kh, nw, wt, wh⟩) (s' := s1.upd ⟨kt, kh, nw, wt, wh'⟩) (fun _ => rfl) (fun l => (hw s1.H l).symm) hs')
end
theorem wr64_le {n : Int} : IntKind.wrap .i64 n ≤ 9223372036854775807 := by
  rw [show IntKind.wrap .i64 n = (n + 9223372036854775808) % 18446744073709551616 - 9223372036854775808 from IntKind.wrap_i64 n]; omega
/-! ### Counted loops as functions -/
/-- the step taken m times from i on -/
def fori {σ : Type} (st : Int → σ → σ) : Nat → Int → σ → σ
  | 0, _, s => s
  | m + 1, i, s => fori st m (i + 1) (st i s)
/-- the numbers from i on, m of them -/
def irange : Int → Nat → List Int
  | _, 0 => []
  | i, m + 1 => i :: irange (i + 1) m
theorem mem_irange {j : Int} : ∀ {m : Nat} {i : Int}, j ∈ irange i m ↔ i ≤ j ∧ j < i + m
  | 0, i => by simp [irange]
  | m + 1, i => by simp only [irange, List.mem_cons, mem_irange]; omega
theorem irange_len : ∀ {m : Nat} {i : Int}, (irange i m).length = m
  | 0, _ => rfl
  | m + 1, i => by simp [irange, irange_len]
theorem irange_get : ∀ {m : Nat} {i : Int} {j : Nat}, j < m → (irange i m)[j]? = some (i + j)
  | 0, _, _, h => by omega
  | m + 1, i, 0, _ => by simp [irange]
  | m + 1, i, j + 1, h => by simp only [irange, List.getElem?_cons_succ]; rw [irange_get (by omega)]; congr 1; omega
theorem list_irange {α : Type} [Inhabited α] (xs : List α) : xs = (irange 0 xs.length).map (at' xs) := by
  apply List.ext_getElem?
  intro j
  by_cases h : j < xs.length
  · rw [List.getElem?_map, irange_get h, Int.zero_add, Option.map_some, at_lt h, List.getElem?_eq_getElem h]
  · rw [List.getElem?_eq_none (by omega), List.getElem?_eq_none (by simp [irange_len]; omega)]
theorem list_eq_irange {α : Type} [Inhabited α] {xs : List α} {n : Nat} {f : Int → α} (hl : xs.length = n) (h : ∀ j : Int, 0 ≤ j → j < n → at' xs j = f j) : xs = (irange 0 n).map f := by
  subst hl
  conv => lhs; rw [list_irange xs]
  apply List.map_congr_left
  intro j hj
  rw [mem_irange] at hj
  exact h j (by omega) (by omega)
theorem list_ext_at {α : Type} [Inhabited α] {xs ys : List α} (hl : xs.length = ys.length) (h : ∀ j : Int, 0 ≤ j → j < xs.length → at' xs j = at' ys j) : xs = ys := by
  rw [list_irange ys, ← hl]
  exact list_eq_irange rfl h
theorem fori_map {α : Type} {f : Int → α} : ∀ {m : Nat} {i : Int} {xs : List α}, fori (fun i xs => xs ++ [f i]) m i xs = xs ++ (irange i m).map f
  | 0, _, _ => by simp [fori, irange]
  | m + 1, i, xs => by simp only [fori, irange]; rw [fori_map]; simp
section
variable {ρ σ τ υ : Type} {n : Int}
/-- a counted loop with nothing that leaves it -/
theorem LOOP_fori {b : (σ × Int → ρ) → (σ × Int → ρ) → σ × Int → ρ} {k : σ × Int → ρ} (st : Int → σ → σ) (hb : ∀ rec s i, 0 ≤ i → i < n → b rec k (s, i) = rec (st i s, i + 1)) (he : ∀ rec s, b rec k (s, n) = k (s, n)) :
    ∀ (f : Nat) (i : Int) (s : σ), 0 ≤ i → i ≤ n → (n - i).toNat < f → LOOP b k f (s, i) = k (fori st (n - i).toNat i s, n)
  | 0, _, _, _, _, h => by omega
  | f + 1, i, s, h0, h1, h2 => by
    simp only [LOOP]
    by_cases h : i < n
    · rw [hb _ _ _ h0 h, LOOP_fori st hb he f (i + 1) _ (by omega) (by omega) (by omega)]
      rw [show (n - i).toNat = (n - (i + 1)).toNat + 1 by omega]; rfl
    · have : i = n := by omega
      subst this
      rw [he]; simp [fori]
/-- the same with a condition that stays -/
theorem LOOP_foriI {b : (σ × Int → ρ) → (σ × Int → ρ) → σ × Int → ρ} {k : σ × Int → ρ} (I : Int → σ → Prop) (st : Int → σ → σ) (hb : ∀ rec s i, 0 ≤ i → i < n → I i s → b rec k (s, i) = rec (st i s, i + 1)) (hI : ∀ s i, 0 ≤ i → i < n → I i s → I (i + 1) (st i s)) (he : ∀ rec s, I n s → b rec k (s, n) = k (s, n)) :
    ∀ (f : Nat) (i : Int) (s : σ), 0 ≤ i → i ≤ n → (n - i).toNat < f → I i s → LOOP b k f (s, i) = k (fori st (n - i).toNat i s, n)
  | 0, _, _, _, _, h, _ => by omega
  | f + 1, i, s, h0, h1, h2, hi => by
    simp only [LOOP]
    by_cases h : i < n
    · rw [hb _ _ _ h0 h hi, LOOP_foriI I st hb hI he f (i + 1) _ (by omega) (by omega) (by omega) (hI _ _ h0 h hi)]
      rw [show (n - i).toNat = (n - (i + 1)).toNat + 1 by omega]; rfl
    · have : i = n := by omega
      subst this
      rw [he _ _ hi]; simp [fori]
theorem LOOP_fori2 {b : (σ × τ × Int → ρ) → (σ × τ × Int → ρ) → σ × τ × Int → ρ} {k : σ × τ × Int → ρ} (st : Int → σ × τ → σ × τ) (hb : ∀ rec s t i, 0 ≤ i → i < n → b rec k (s, t, i) = rec ((st i (s, t)).1, (st i (s, t)).2, i + 1)) (he : ∀ rec s t, b rec k (s, t, n) = k (s, t, n)) :
    ∀ (f : Nat) (i : Int) (s : σ) (t : τ), 0 ≤ i → i ≤ n → (n - i).toNat < f → LOOP b k f (s, t, i) = k ((fori st (n - i).toNat i (s, t)).1, (fori st (n - i).toNat i (s, t)).2, n)
  | 0, _, _, _, _, _, h => by omega
  | f + 1, i, s, t, h0, h1, h2 => by
    simp only [LOOP]
    by_cases h : i < n
    · rw [hb _ _ _ _ h0 h, LOOP_fori2 st hb he f (i + 1) _ _ (by omega) (by omega) (by omega)]
      rw [show (n - i).toNat = (n - (i + 1)).toNat + 1 by omega]; rfl
    · have : i = n := by omega
      subst this
      rw [he]; simp [fori]
/-- a counted loop without any state -/
theorem LOOP_find {b : (Int → ρ) → (Int → ρ) → Int → ρ} {k : Int → ρ} (p : Int → Bool) (v : Int → ρ) (hb : ∀ rec i, 0 ≤ i → i < n → b rec k i = bif p i then v i else rec (i + 1)) (he : ∀ rec, b rec k n = k n) :
    ∀ (f : Nat) (i : Int), 0 ≤ i → i ≤ n → (n - i).toNat < f → (∃ j, i ≤ j ∧ j < n ∧ p j = true ∧ (∀ q, i ≤ q → q < j → p q = false) ∧ LOOP b k f i = v j) ∨ ((∀ q, i ≤ q → q < n → p q = false) ∧ LOOP b k f i = k n)
  | 0, _, _, _, h => by omega
  | f + 1, i, h0, h1, h2 => by
    simp only [LOOP]
    by_cases h : i < n
    · rw [hb _ _ h0 h]
      cases hp : p i with
      | true => exact .inl ⟨i, by omega, h, hp, fun q h1 h2 => by omega, rfl⟩
      | false =>
        rcases LOOP_find p v hb he f (i + 1) (by omega) (by omega) (by omega) with ⟨j, h3, h4, h5, h6, h7⟩ | ⟨h3, h4⟩
        · refine .inl ⟨j, by omega, h4, h5, fun q hq1 hq2 => ?_, h7⟩
          by_cases e : q = i
          · subst e; exact hp
          · exact h6 q (by omega) hq2
        · refine .inr ⟨fun q hq1 hq2 => ?_, h4⟩
          by_cases e : q = i
          · subst e; exact hp
          · exact h3 q (by omega) hq2
    · have : i = n := by omega
      subst this
      rw [he]; exact .inr ⟨fun q h1 h2 => by omega, rfl⟩
end
/-! ### Marks -/
end Go.Proofs.YtibbfdojcdkopaaGreat.E
