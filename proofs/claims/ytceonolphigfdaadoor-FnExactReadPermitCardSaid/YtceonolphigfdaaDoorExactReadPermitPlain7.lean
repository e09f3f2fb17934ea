/-
  PLAIN LAWS about the models: no program in sight. Conditions: as each theorem states them.
-/
import Derived.Test.YtceonolphigfdaaDoorExactReadPermitPlain6
set_option linter.unusedVariables false
set_option linter.unusedSimpArgs false
set_option linter.unusedSectionVars false
set_option linter.unnecessarySimpa false
namespace Go.Proofs.YtceonolphigfdaaDoor
open Go Go.RowKit Go.Proofs Go.Proofs.YtceonolphigfdaaDoor.E
/-! ## Which texts are numerals -/
/-- what digits spell -/
def val (a : Nat) : List UInt8 → Nat
  | [] => a
  | c :: r => val (10 * a + (c.toNat - 48)) r
def dig (c : UInt8) : Prop := 48 ≤ c.toNat ∧ c.toNat ≤ 57
theorem val_app : ∀ (l r : List UInt8) (a : Nat), val a (l ++ r) = val (val a l) r
  | [], _, _ => rfl
  | _ :: l, r, _ => val_app l r _
theorem val_one (a : Nat) (c : UInt8) : val a [c] = 10 * a + (c.toNat - 48) := rfl
theorem val_ge : ∀ (l : List UInt8) (a : Nat), a ≤ val a l
  | [], _ => Nat.le_refl _
  | c :: l, a => Nat.le_trans (by omega) (val_ge l (10 * a + (c.toNat - 48)))
theorem val_lt (l : List UInt8) : ∀ (a : Nat), (∀ c ∈ l, dig c) → val a l < (a + 1) * 10 ^ l.length := by
  induction l with
  | nil => intro a _; rw [List.length_nil, Nat.pow_zero, Nat.mul_one]; exact Nat.lt_succ_self a
  | cons c l ih =>
    intro a h
    have h1 := (h c (by simp)).2
    have ih := ih (10 * a + (c.toNat - 48)) (fun x hx => h x (by simp [hx]))
    refine Nat.lt_of_lt_of_le ih ?_
    rw [List.length_cons, Nat.pow_succ, Nat.mul_comm (10 ^ l.length) 10, ← Nat.mul_assoc]
    exact Nat.mul_le_mul_right _ (by omega)
theorem dig_of {c : UInt8} (h : dig c) : UInt8.ofNat (48 + (c.toNat - 48)) = c := by
  have : 48 + (c.toNat - 48) = c.toNat := by have := h.1; omega
  rw [this]; simp
theorem digits_val : ∀ (n : Nat) (d : List UInt8), d.length = n → d ≠ [] → (∀ c ∈ d, dig c) → (d.head? ≠ some 48 ∨ d.length = 1) → Lib.decDigits (val 0 d) = d := by
  intro n
  induction n with
  | zero => intro d h hne; exact absurd (List.length_eq_zero_iff.1 h) hne
  | succ n ih =>
    intro d hl hne hd hh
    obtain ⟨e, c, rfl⟩ : ∃ e c, d = e ++ [c] := ⟨d.dropLast, d.getLast hne, (List.dropLast_concat_getLast hne).symm⟩
    have hc := hd c (by simp)
    rw [val_app]
    show Lib.decDigits (10 * val 0 e + (c.toNat - 48)) = e ++ [c]
    rw [Lib.decDigits]
    by_cases he : e = []
    · have hv : val 0 e = 0 := by rw [he]; rfl
      have h10 : 10 * val 0 e + (c.toNat - 48) < 10 := by rw [hv]; have := hc.2; omega
      rw [dif_pos h10, hv, Nat.mul_zero, Nat.zero_add, dig_of hc, he]; rfl
    · have hle : e.length = n := by simp at hl; omega
      have hh1 : e.head? ≠ some 48 := by
        rcases hh with h | h
        · cases e with
          | nil => exact absurd rfl he
          | cons x r => simpa using h
        · exfalso; simp at h; exact he h
      have hv : 1 ≤ val 0 e := by
        cases e with
        | nil => exact absurd rfl he
        | cons x r =>
          have hx := hd x (by simp)
          have : x.toNat ≠ 48 := fun e2 => hh1 (by simp; exact UInt8.toNat_inj.1 (by simpa using e2))
          exact Nat.le_trans (by have := hx.1; omega) (val_ge r (10 * 0 + (x.toNat - 48)))
      have h2 := hc.1; have h3 := hc.2
      rw [dif_neg (by omega)]
      have e1 : (10 * val 0 e + (c.toNat - 48)) / 10 = val 0 e := by omega
      have e2 : (10 * val 0 e + (c.toNat - 48)) % 10 = c.toNat - 48 := by omega
      rw [e1, e2, ih e hle he (fun x hx => hd x (by simp [hx])) (.inl hh1), dig_of hc]
theorem decDigits_dig (u : Nat) : ∀ c ∈ Lib.decDigits u, dig c := by
  induction u using Nat.strongRecOn with
  | ind u ih =>
    rw [Lib.decDigits]
    have hd : ∀ k, k < 10 → dig (UInt8.ofNat (48 + k)) := fun k hk => by
      have : (UInt8.ofNat (48 + k)).toNat = 48 + k := by simp; omega
      exact ⟨by omega, by omega⟩
    split
    · intro c hc; rw [List.mem_singleton] at hc; rw [hc]; exact hd u (by assumption)
    · intro c hc
      rcases List.mem_append.1 hc with h | h
      · exact ih (u / 10) (by omega) c h
      · rw [List.mem_singleton] at h; rw [h]; exact hd _ (by omega)
theorem val_decDigits (u : Nat) : val 0 (Lib.decDigits u) = u := by
  induction u using Nat.strongRecOn with
  | ind u ih =>
    rw [Lib.decDigits]
    have hk : ∀ k, k < 10 → (UInt8.ofNat (48 + k)).toNat - 48 = k := fun k hk => by
      have : (UInt8.ofNat (48 + k)).toNat = 48 + k := by simp; omega
      omega
    split
    · rename_i h; rw [val_one, hk u h]; omega
    · rw [val_app, ih (u / 10) (by omega), val_one, hk _ (by omega)]; omega
theorem decDigits_head {u : Nat} (h : 1 ≤ u) : (Lib.decDigits u).head? ≠ some 48 := by
  induction u using Nat.strongRecOn with
  | ind u ih =>
    rw [Lib.decDigits]
    split
    · rename_i hu
      intro e; have e : UInt8.ofNat (48 + u) = 48 := by simpa only [List.head?_cons, Option.some.injEq] using e
      have : (UInt8.ofNat (48 + u)).toNat = 48 + u := by simp; omega
      rw [e] at this; simp at this; omega
    · have := ih (u / 10) (by omega) (by omega)
      cases hd : Lib.decDigits (u / 10) with
      | nil => exfalso; rw [Lib.decDigits] at hd; split at hd <;> simp at hd
      | cons x r => rw [hd] at this; simpa using this
theorem decDigits_ne (u : Nat) : Lib.decDigits u ≠ [] := by
  rw [Lib.decDigits]; split <;> simp
theorem decDigits_big {u : Nat} (h : (Lib.decDigits u).length ≤ 18) : u < 1000000000000000000 := by
  have h1 := val_lt (Lib.decDigits u) 0 (decDigits_dig u)
  rw [val_decDigits] at h1
  have h2 : 10 ^ (Lib.decDigits u).length ≤ 10 ^ 18 := Nat.pow_le_pow_right (by omega) h
  have h3 : (10 : Nat) ^ 18 = 1000000000000000000 := by decide
  omega
theorem decDigits_small {u : Nat} (h : u < 1000000000000000000) : (Lib.decDigits u).length ≤ 18 := digits_len 17 u (by show u < 1000000000000000000; exact h)
/-- the library reads its own numerals -/
theorem parse_digits {M : Nat} (hM : 1000000000000000000 ≤ M) : ∀ (l : List UInt8) (acc : Nat), (∀ c ∈ l, dig c) → val acc l < 1000000000000000000 → Lib.parseUintM M acc l = .ok (val acc l)
  | [], acc, _, _ => rfl
  | c :: l, acc, h, hv => by
    have h1 : 48 ≤ c.toNat ∧ c.toNat ≤ 57 := h c (by simp)
    have h2 := val_ge l (10 * acc + (c.toNat - 48))
    have hv' : val (10 * acc + (c.toNat - 48)) l < 1000000000000000000 := hv
    have e : acc * 10 + (c.toNat - 48) = 10 * acc + (c.toNat - 48) := by omega
    rw [Lib.parseUintM, if_pos h1, if_neg (by omega), if_neg (by omega), e]
    exact parse_digits hM l _ (fun x hx => h x (by simp [hx])) hv'
theorem parse_itoa {n : Int} (h : n.natAbs < 1000000000000000000) : Lib.parseIntB 64 (Lib.itoa n) = .ok n := by
  have key : ∀ u : Nat, u < 1000000000000000000 → Lib.parseUintB 64 (Lib.decDigits u) = .ok u := fun u hu => by
    unfold Lib.parseUintB
    rw [if_neg (decDigits_ne u), parse_digits (by decide) _ 0 (decDigits_dig u) (by rw [val_decDigits]; exact hu), val_decDigits]
  unfold Lib.itoa
  split
  · rename_i hn
    unfold Lib.parseIntB
    simp only
    rw [if_pos (by right; rfl), key _ h]
    have hp : (2 : Nat) ^ (64 - 1) = 9223372036854775808 := by decide
    simp only [hp]
    rw [if_neg (by simp), if_neg (by omega), if_pos (by rfl)]
    congr 1; omega
  · rename_i hn
    obtain ⟨x, r, e⟩ : ∃ x r, Lib.decDigits n.toNat = x :: r := by
      cases e : Lib.decDigits n.toNat with
      | nil => exact absurd e (decDigits_ne _)
      | cons x r => exact ⟨x, r, rfl⟩
    have hx := decDigits_dig n.toNat x (by rw [e]; simp)
    have hk := key n.toNat (by omega)
    rw [e] at hk ⊢
    unfold Lib.parseIntB
    simp only
    have h1 := hx.1; have h2 := hx.2
    rw [if_neg (by omega), hk]
    have hp : (2 : Nat) ^ (64 - 1) = 9223372036854775808 := by decide
    simp only [hp]
    rw [if_neg (by omega), if_neg (by omega), if_neg (by omega)]
    congr 1; omega
/-- a numeral of at most 18 digits -/
def isNum (s : List UInt8) (n : Int) : Prop := s = Lib.itoa n ∧ n.natAbs < 1000000000000000000
theorem trim_len {n : Int} : (Lib.trimPrefix (Lib.itoa n) [45]).length = (Lib.decDigits n.natAbs).length := by
  unfold Lib.itoa
  split
  · rename_i h; simp [Lib.trimPrefix, Lib.hasPrefix, List.isPrefixOf]
  · rename_i h
    obtain ⟨x, r, e⟩ : ∃ x r, Lib.decDigits n.toNat = x :: r := by
      cases e : Lib.decDigits n.toNat with
      | nil => exact absurd e (decDigits_ne _)
      | cons x r => exact ⟨x, r, rfl⟩
    have hx := decDigits_dig n.toNat x (by rw [e]; simp)
    have hne : ¬ (45 : UInt8) = x := fun e2 => by have h1 := hx.1; rw [← e2] at h1; simp at h1
    have en : n.natAbs = n.toNat := by omega
    rw [en, e]; simp [Lib.trimPrefix, Lib.hasPrefix, List.isPrefixOf, hne]

end Go.Proofs.YtceonolphigfdaaDoor
