/-
  THE PLAIN LAWS' TOOLS: what the model's loops come to. No program in sight.
-/
import Derived.Test.YtpkkmkbafdadoaaEngK
import Derived.Laws.BitsLemmas
set_option linter.unusedVariables false
set_option linter.unusedSimpArgs false
set_option linter.unusedSectionVars false
set_option linter.unnecessarySimpa false
namespace Go.Proofs.Ytpkkmkbafdadoaa.E
open Go Go.RowKit

theorem wr64 {n : Int} (h : -9223372036854775808 ≤ n ∧ n ≤ 9223372036854775807) : IntKind.wrap .i64 n = n := by
  rw [show IntKind.wrap .i64 n = (n + 9223372036854775808) % 18446744073709551616 - 9223372036854775808 from IntKind.wrap_i64 n]
  omega
theorem at_lt {α : Type} [Inhabited α] {xs : List α} {j : Nat} (h : j < xs.length) : at' xs (j : Int) = xs[j] := by
  simp [at', List.getD_eq_getElem?_getD, List.getElem?_eq_getElem h]
theorem all_at {α : Type} [Inhabited α] {xs : List α} {Q : α → Prop} : (∀ x ∈ xs, Q x) ↔ ∀ j : Nat, j < xs.length → Q (at' xs j) := by
  constructor
  · intro h j hj
    exact at_all h ⟨by omega, by omega⟩
  · intro h x hx
    obtain ⟨j, hj, e⟩ := List.mem_iff_getElem.1 hx
    rw [← e, ← at_lt hj]; exact h j hj

/-- a loop that looks at the places from i on, and ends with 'false' at the first bad one -/
theorem LOOP_all {b : (Int → Bool) → (Int → Bool) → Int → Bool} {n : Nat} {bad : Int → Bool} (hb : ∀ rec k i, 0 ≤ i → b rec k i = bif decide (i < (n : Int)) then (bif bad i then false else rec (i + 1)) else k i) {k : Int → Bool} :
    ∀ (fuel : Nat) (i : Int), 0 ≤ i → i ≤ n → ((n : Int) - i).toNat < fuel → (LOOP b k fuel i = true ↔ (∀ j : Nat, i ≤ j → j < n → bad j = false) ∧ k n = true)
  | 0, i, _, _, h => by omega
  | m + 1, i, h0, hn, hm => by
    simp only [LOOP]
    rw [hb _ _ _ h0]
    by_cases hi : i < (n : Int)
    · simp only [hi, decide_true, cond_true]
      cases hbad : bad i with
      | true =>
        simp only [cond_true, Bool.false_eq_true, false_iff]
        rintro ⟨h, _⟩
        have := h i.toNat (by omega) (by omega)
        rw [show ((i.toNat : Nat) : Int) = i by omega, hbad] at this
        simp at this
      | false =>
        simp only [cond_false]
        rw [LOOP_all hb m (i + 1) (by omega) (by omega) (by omega)]
        constructor
        · rintro ⟨h1, h2⟩
          refine ⟨fun j hj hjn => ?_, h2⟩
          by_cases hji : (j : Int) = i
          · rw [hji]; exact hbad
          · exact h1 j (by omega) hjn
        · rintro ⟨h1, h2⟩
          exact ⟨fun j hj hjn => h1 j (by omega) hjn, h2⟩
    · have : i = n := by omega
      subst this
      simp only [hi, decide_false, cond_false]
      constructor
      · intro h; exact ⟨fun j hj hjn => by omega, h⟩
      · intro h; exact h.2
/-- a loop that counts what is left down -/
theorem LOOP_sz {b : ((Int × Int) → Int) → ((Int × Int) → Int) → (Int × Int) → Int} {n : Nat} {f : Int → Int → Int} (hb : ∀ rec k x, b rec k x = bif decide (x.2 < (n : Int)) then (bif decide (f x.2 x.1 < 0) then (-1) else rec (f x.2 x.1, x.2 + 1)) else k (x.1, x.2))
    (hf : ∀ (i l : Int), 0 ≤ i → i < n → 0 ≤ l → l ≤ 1048576 → f i l ≤ l) {k : (Int × Int) → Int} (hk : ∀ x, k x = x.1) :
    ∀ (fuel : Nat) (l i : Int), 0 ≤ i → 0 ≤ l → l ≤ 1048576 → LOOP b k fuel (l, i) ≤ l
  | 0, l, i, _, h, _ => by simp [LOOP, hk]
  | m + 1, l, i, hi0, h, h2 => by
    simp only [LOOP]
    rw [hb]
    by_cases hi : i < (n : Int)
    · simp only [hi, decide_true, cond_true]
      have h1 := hf i l hi0 hi h h2
      by_cases hn : f i l < 0
      · simp only [hn, decide_true, cond_true]; omega
      · simp only [hn, decide_false, cond_false]
        have := LOOP_sz hb hf hk m (f i l) (i + 1) (by omega) (by omega) (by omega)
        omega
    · simp only [hi, decide_false, cond_false, hk]; omega
/-- a loop that counts what is left down, and what it tells of the places -/
theorem LOOP_szq {b : ((Int × Int) → Int) → ((Int × Int) → Int) → (Int × Int) → Int} {n : Nat} {f : Int → Int → Int} {Q : Int → Prop}
    (hb : ∀ rec k x, 0 ≤ x.2 → x.2 < (n : Int) → 0 ≤ x.1 → x.1 ≤ 1048576 → b rec k x = bif decide (f x.2 x.1 < 0) then (-1) else rec (f x.2 x.1, x.2 + 1))
    (he : ∀ rec k x, ¬ x.2 < (n : Int) → b rec k x = k (x.1, x.2))
    (hf : ∀ (i l : Int), 0 ≤ i → i < n → 0 ≤ l → l ≤ 1048576 → f i l ≤ l ∧ (0 ≤ f i l → Q i)) {k : (Int × Int) → Int} (hk : ∀ x, k x = x.1) :
    ∀ (fuel : Nat) (l i : Int), 0 ≤ i → 0 ≤ l → l ≤ 1048576 → i ≤ n → ((n : Int) - i).toNat < fuel → LOOP b k fuel (l, i) ≤ l ∧ (0 ≤ LOOP b k fuel (l, i) → ∀ j : Nat, i ≤ j → j < n → Q j)
  | 0, l, i, _, h, _, _, hm => by omega
  | m + 1, l, i, hi0, h, h2, hin, hm => by
    simp only [LOOP]
    by_cases hi : i < (n : Int)
    · rw [hb _ _ _ hi0 hi h h2]
      have h1 := hf i l hi0 hi h h2
      by_cases hn : f i l < 0
      · simp only [hn, decide_true, cond_true]; exact ⟨by omega, fun h => by omega⟩
      · simp only [hn, decide_false, cond_false]
        have ih := LOOP_szq hb he hf hk m (f i l) (i + 1) (by omega) (by omega) (by omega) (by omega) (by omega)
        refine ⟨by omega, fun hq j hj hjn => ?_⟩
        by_cases e : (j : Int) = i
        · rw [e]; exact h1.2 (by omega)
        · exact ih.2 hq j (by omega) hjn
    · rw [he _ _ _ hi, hk]
      exact ⟨by simp, fun _ j hj hjn => by omega⟩

/-- two loops that go side by side -/
theorem LOOP_sim {ι₁ ι₂ ρ : Type} {b₁ : (ι₁ → ρ) → (ι₁ → ρ) → ι₁ → ρ} {b₂ : (ι₂ → ρ) → (ι₂ → ρ) → ι₂ → ρ} {k₁ : ι₁ → ρ} {k₂ : ι₂ → ρ} (R : ι₁ → ι₂ → Prop) (μ₁ : ι₁ → Nat) (μ₂ : ι₂ → Nat)
    (hs : ∀ rec₁ rec₂ x₁ x₂, R x₁ x₂ → (∀ y₁ y₂, R y₁ y₂ → μ₁ y₁ < μ₁ x₁ → μ₂ y₂ < μ₂ x₂ → rec₁ y₁ = rec₂ y₂) → b₁ rec₁ k₁ x₁ = b₂ rec₂ k₂ x₂) :
    ∀ (f₁ f₂ : Nat) (x₁ : ι₁) (x₂ : ι₂), R x₁ x₂ → μ₁ x₁ < f₁ → μ₂ x₂ < f₂ → LOOP b₁ k₁ f₁ x₁ = LOOP b₂ k₂ f₂ x₂
  | 0, _, _, _, _, h, _ => by omega
  | _ + 1, 0, _, _, _, _, h => by omega
  | f₁ + 1, f₂ + 1, x₁, x₂, hR, h₁, h₂ => hs _ _ _ _ hR fun y₁ y₂ hy l₁ l₂ => LOOP_sim R μ₁ μ₂ hs f₁ f₂ y₁ y₂ hy (by omega) (by omega)
/-- what a loop ends with -/
theorem LOOP_post {ι ρ : Type} {b : (ι → ρ) → (ι → ρ) → ι → ρ} {k : ι → ρ} (I : ι → Prop) (μ : ι → Nat) (Q : ι → ρ → Prop)
    (hs : ∀ rec x, I x → (∀ y, I y → μ y < μ x → Q y (rec y)) → Q x (b rec k x)) : ∀ (f : Nat) (x : ι), I x → μ x < f → Q x (LOOP b k f x)
  | 0, _, _, h => by omega
  | f + 1, x, hI, h => hs _ _ hI fun y hy l => LOOP_post I μ Q hs f y hy (by omega)
/-- a loop that comes to a known value -/
theorem LOOP_is {ι ρ : Type} {b : (ι → ρ) → (ι → ρ) → ι → ρ} {k : ι → ρ} (I : ι → Prop) (μ : ι → Nat) (F : ι → ρ)
    (hs : ∀ rec x, I x → (∀ y, I y → μ y < μ x → rec y = F y) → b rec k x = F x) {f : Nat} {x : ι} (hI : I x) (h : μ x < f) : LOOP b k f x = F x :=
  LOOP_post I μ (fun x r => r = F x) hs f x hI h
theorem put_at {α : Type} [Inhabited α] {xs : List α} {i : Int} {w : α} (h : 0 ≤ i ∧ i < xs.length) : at' (put' xs i w) i = w := by
  have hl : i.toNat < xs.length := by omega
  simp [at', put', List.getD_eq_getElem?_getD, hl]
theorem put_put {α : Type} {xs : List α} {i : Int} {v w : α} : put' (put' xs i v) i w = put' xs i w := by simp [put', List.set_set]
theorem put_at_ne {α : Type} [Inhabited α] {xs : List α} {i j : Int} {w : α} (hi : 0 ≤ i) (hj : 0 ≤ j) (h : i ≠ j) : at' (put' xs i w) j = at' xs j := by
  have hl : i.toNat ≠ j.toNat := by omega
  simp [at', put', List.getD_eq_getElem?_getD, List.getElem?_set, hl]
section
variable {P : Program} {n : Nat} {ops : Array Oper}
variable {s s' : S} {r : List Oper} {bs : List A} {g : Bool} {gks : List Nat} {d : Nat} {ty : TypeId} {pos : String} {af : Array Edge} {gd : Option (Nat × Bool)}
variable {α : Type} {f : α → V} {xs : List α} {m : Int}
/-- a store into a place that has just been written -/
theorem q_st_rowp [Inhabited α] {t el : TypeId} {x y : Operand} {l sz j q : Nat} {v : V} (w0 w : α) {ks ks' : List Nat} (hgd : Gd ops s gd g gks) (hg : g = true) (hx : Od s g x (.op l sz m.toNat j) ks) (hy : Od s g y v ks') (ho : get s.H l = some (.row el sz ((put' xs m w0).map f))) (ht1 : tySz P t = some q)
    (hm : 0 ≤ m ∧ m < xs.length) (he1 : (f w).cells = splice (f w0).cells j v.cells) (hok : (v.roc && v.notup && Nat.beq v.cells.length q && Nat.ble (j + q) sz) = true)
    (k : Lex P n ops r ⟨s.T, (l, some (.row el sz ((put' xs m w).map f))) :: s.H⟩ bs s') :
    Lex P n ops (⟨none, .store t x y, ty, pos, af, gd⟩ :: r) s (⟨(ks ++ ks') ++ gks, [l], [], [], [(l, some (.row el sz ((put' xs m w).map f)))]⟩ :: bs) s' := by
  have h := q_st_rowm (ty := ty) (pos := pos) (af := af) (n := n) (s' := s') (r := r) (bs := bs) (xs := put' xs m w0) (m := m) w hgd hg hx hy ho ht1 (by rw [put_len]; exact hm) (by rw [put_at hm]; exact he1) hok
  rw [put_put] at h
  exact h k
end
theorem wr64_le {n : Int} : IntKind.wrap .i64 n ≤ 9223372036854775807 := by
  rw [show IntKind.wrap .i64 n = (n + 9223372036854775808) % 18446744073709551616 - 9223372036854775808 from IntKind.wrap_i64 n]; omega
theorem wr64_ge {n : Int} : -9223372036854775808 ≤ IntKind.wrap .i64 n := by
  rw [show IntKind.wrap .i64 n = (n + 9223372036854775808) % 18446744073709551616 - 9223372036854775808 from IntKind.wrap_i64 n]; omega
/-- a loop that fills a row -/
theorem LOOP_fill {α : Type} [Inhabited α] {b : ((List α × Int) → List α) → ((List α × Int) → List α) → (List α × Int) → List α} {a : List α} (hb : ∀ rec k x, b rec k x = bif decide (x.2 < (a.length : Int)) then rec (put' x.1 x.2 (at' a x.2), x.2 + 1) else k (x.1, x.2))
    {k : (List α × Int) → List α} (hk : ∀ x, k x = x.1) :
    ∀ (fuel : Nat) (c : List α) (i : Nat), c.length = a.length → i ≤ a.length → c.take i = a.take i → (a.length - i) < fuel → LOOP b k fuel (c, (i : Int)) = a
  | 0, c, i, _, _, _, h => by omega
  | m + 1, c, i, hl, hi, ht, hm => by
    simp only [LOOP]
    rw [hb]
    by_cases hlt : i < a.length
    · have : ((i : Int) < (a.length : Int)) := by omega
      simp only [this, decide_true, cond_true]
      have hc : put' c (i : Int) (at' a (i : Int)) = c.set i a[i] := by simp [put', at_lt hlt]
      rw [show ((i : Int) + 1) = ((i + 1 : Nat) : Int) by omega, hc]
      refine LOOP_fill hb hk m _ (i + 1) (by simp [hl]) hlt ?_ (by omega)
      rw [List.take_succ_eq_append_getElem (by simp; omega), List.take_succ_eq_append_getElem hlt, List.take_set_of_le (Nat.le_refl i), ht]
      simp
    · have : ¬ ((i : Int) < (a.length : Int)) := by omega
      simp only [this, decide_false, cond_false, hk]
      have h1 : i = a.length := by omega
      subst h1
      rw [List.take_length] at ht
      rw [← ht, ← hl, List.take_length]
end Go.Proofs.Ytpkkmkbafdadoaa.E
