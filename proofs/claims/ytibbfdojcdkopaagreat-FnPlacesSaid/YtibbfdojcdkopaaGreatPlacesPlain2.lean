/-
  PLAIN LAWS about the models: no program in sight. Conditions: as each theorem states them.
-/
import Derived.Test.YtibbfdojcdkopaaGreatPlacesPlain1
set_option linter.unusedVariables false
set_option linter.unusedSimpArgs false
set_option linter.unusedSectionVars false
set_option linter.unnecessarySimpa false
namespace Go.Proofs.YtibbfdojcdkopaaGreat
open Go Go.RowKit Go.Proofs Go.Proofs.YtibbfdojcdkopaaGreat.E

/-! ## Labels of what a closure holds -/
/-! ## What the draws read -/
theorem wru64 {n : Int} (h : 0 ≤ n ∧ n ≤ 255) : IntKind.wrap .u64 n = n := by
  have : IntKind.wrap .u64 n = n % 18446744073709551616 := by rfl
  rw [this]; omega
def Lim (s : Ak) (n : Int) : Prop := (∀ y ∈ s.code, 0 ≤ y ∧ y ≤ 255) ∧ (n ≤ 1000000000000 → 0 ≤ s.at_ ∧ s.at_ ≤ n)
theorem Lim.mono {s : Ak} {n m : Int} (h : Lim s n) (hm : n ≤ m) : Lim s m := ⟨h.1, fun h1 => by have := h.2 (by omega); omega⟩
def LimA (c : List Int) (a : Int) (n : Int) : Prop := (∀ y ∈ c, 0 ≤ y ∧ y ≤ 255) ∧ (n ≤ 1000000000000 → 0 ≤ a ∧ a ≤ n)
theorem Lim.mk {c : List Int} {a b n : Int} (h : LimA c a n) : Lim (Ak.mk c a b) n := h
theorem Lim.out {s : Ak} {n m : Int} (h : Lim s n) (hm : n ≤ m) : LimA s.code s.at_ m := h.mono hm
theorem LimA.mono {c : List Int} {a n m : Int} (h : LimA c a n) (hm : n ≤ m) : LimA c a m := ⟨h.1, fun h1 => by have := h.2 (by omega); omega⟩
theorem Lim.from {code : List Int} (h : ∀ y ∈ code, 0 ≤ y ∧ y ≤ 255) : Lim (AU code) 0 := ⟨h, fun _ => by simp [AU]⟩
theorem Lim.next {s : Ak} {n : Int} (h : Lim s n) : Lim (Bc s).2 (n + 1) := by
  simp only [Bc, JN]
  have key : ∀ k : Int, Lim (Ak.mk s.code (IntKind.wrap .i64 (s.at_ + 1)) k) (n + 1) := fun k => by
    refine ⟨h.1, fun h1 => ?_⟩
    have := h.2 (by omega)
    rw [wr64 (by omega)]
    simp only; omega
  cases decide (s.at_ < (s.code.length : Int)) <;> cases decide ((IntKind.wrap .i64 (s.at_ + 1)) ≤ (s.code.length : Int)) <;> exact key _
theorem code_at {c : List Int} (h : ∀ y ∈ c, 0 ≤ y ∧ y ≤ 255) (i : Int) : 0 ≤ at' c i ∧ at' c i ≤ 255 := by
  by_cases hi : i.toNat < c.length
  · have : at' c i = c[i.toNat] := by simp [at', List.getD_eq_getElem?_getD, hi]
    rw [this]; exact h _ (List.getElem_mem hi)
  · have : at' c i = 0 := by
      simp only [at', List.getD_eq_getElem?_getD]
      rw [List.getElem?_eq_none (by omega)]; rfl
    omega
theorem Lim.byte {s : Ak} {n : Int} (h : Lim s n) : 0 ≤ (Bc s).1 ∧ (Bc s).1 ≤ 255 := by
  simp only [Bc, JN]
  have h0 := code_at h.1 s.at_
  have k1 : 0 ≤ IntKind.wrap .i64 (at' s.code s.at_) ∧ IntKind.wrap .i64 (at' s.code s.at_) ≤ 255 := by rw [wr64 (by omega)]; exact h0
  have k2 : ∀ b : BitVec (IntKind.bits .u64), 0 ≤ IntKind.wrap .i64 (IntKind.wrap .u64 (((b &&& (BitVec.ofInt (IntKind.bits .u64) 255)).toNat : Nat) : Int)) ∧ IntKind.wrap .i64 (IntKind.wrap .u64 (((b &&& (BitVec.ofInt (IntKind.bits .u64) 255)).toNat : Nat) : Int)) ≤ 255 := fun b => by
    have hb : (b &&& (BitVec.ofInt (IntKind.bits .u64) 255)).toNat ≤ 255 := by
      rw [BitVec.toNat_and]
      exact Nat.le_trans Nat.and_le_right (by decide)
    have e : IntKind.wrap .u64 (((b &&& (BitVec.ofInt (IntKind.bits .u64) 255)).toNat : Nat) : Int) = (((b &&& (BitVec.ofInt (IntKind.bits .u64) 255)).toNat : Nat) : Int) := by
      exact wru64 (by omega)
    rw [e, wr64 (by omega)]
    omega
  cases decide (s.at_ < (s.code.length : Int)) <;> cases decide ((IntKind.wrap .i64 (s.at_ + 1)) ≤ (s.code.length : Int)) <;> simp only [Bool.cond_true, Bool.cond_false] <;> first | exact k1 | exact k2 _ | omega
theorem Lim.pick {s : Ak} {n k : Int} (h : Lim s n) : Lim (Aa s k).2 (n + 2) := by
  simp only [Aa]
  cases decide (k ≤ 1)
  · cases decide (200 < k)
    · exact h.next.mono (by omega)
    · exact h.next.next.mono (by omega)
  · exact h.mono (by omega)
theorem Lim.num {s : Ak} {n k : Int} (h : Lim s n) : 0 ≤ (Aa s k).1 ∧ (1 ≤ k → (Aa s k).1 < k) := by
  have h1 := h.byte
  have h2 := h.next.byte
  simp only [Aa]
  by_cases hk : k ≤ 1
  · simp only [hk, decide_true, Bool.cond_true]; exact ⟨by omega, fun _ => by omega⟩
  · simp only [hk, decide_false, Bool.cond_false]
    have hm : ∀ v : Int, 0 ≤ v → 0 ≤ Int.tmod v k ∧ (1 ≤ k → Int.tmod v k < k) := fun v hv => by
      rw [Int.tmod_eq_emod_of_nonneg hv]
      exact ⟨Int.emod_nonneg _ (by omega), fun _ => Int.emod_lt_of_pos _ (by omega)⟩
    by_cases h200 : 200 < k
    · simp only [h200, decide_true, Bool.cond_true]
      refine hm _ ?_
      rw [wr64 (n := (Bc s).1 * 256) (by omega), wr64 (by omega)]; omega
    · simp only [h200, decide_false, Bool.cond_false]
      exact hm _ h1.1
theorem Lim.one {s : Ak} {n k : Int} (h : Lim s n) : Lim (Am s k).2 (n + 2) := h.pick
theorem Lim.bif1 {s : Ak} {n k : Int} {c : Bool} (h : Lim s n) : Lim (bif c then (Am s k).2 else s) (n + 2) := by
  cases c
  · exact h.mono (by omega)
  · exact h.one
theorem chars_len {xs : List Int} : (chars xs).length = xs.length := by simp [chars]

theorem Lim.among {s : Ak} {n : Int} {l : List Int} (h : Lim s n) : Lim (Aj s l).2.1 (n + 2) := h.pick
theorem Lim.text {s : Ak} {n : Int} {l : List (List UInt8)} (h : Lim s n) : Lim (Ab s l).2.1 (n + 2) := h.pick

theorem Lim.draw3 {s : Ak} {n : Int} {id : List UInt8} {a b : Int} (h : Lim s n) : Lim (Ai s id a b).2 (n + 8) := h.pick.pick.pick.pick.mono (by omega)

/-! ## A mine that is drawn -/
structure DOk (n : Int) (r : AB × Ak) : Prop where
  lim : Lim r.2 n
  len : r.1.Airways.length ≤ 8
theorem DOk.bif {n : Int} {c : Bool} {a b : AB × Ak} (h1 : DOk n a) (h2 : DOk n b) : DOk n (bif c then a else b) := by cases c <;> assumption
theorem Lim.draw4_ok {s : Ak} {n : Int} (h : Lim s n) : DOk (n + 200) (Ax s) := by
  simp only [Ax]
  refine LOOP_post (fun (x : (List Int) × Int × Int × Int × (List Ar)) => (0 ≤ x.2.2.2.1 ∧ x.2.2.2.1 ≤ 8 ∧ (x.2.2.2.2.length : Int) ≤ x.2.2.2.1) ∧ Lim (Ak.mk x.1 x.2.1 x.2.2.1) (n + 2 + 20 * x.2.2.2.1)) (fun x => (8 - x.2.2.2.1).toNat) (fun _ r => DOk (n + 200) r) (fun rec x hI ih => ?_) _ _ ⟨by simp, h.pick.mono (by simp)⟩ (by simp)
  obtain ⟨c, a, sd, k, A⟩ := x
  obtain ⟨⟨h0, h1, h2⟩, hL⟩ := hI
  simp only at h0 h1 h2 hL
  simp only [Dq, JN]
  rw [show (((K_2.length : Nat)) : Int) = 8 from rfl]
  by_cases hk : k < 8
  · simp only [hk, decide_true, Bool.cond_true]
    have go : ∀ (S : Ak) (B : List Ar), (B.length : Int) ≤ A.length + 1 → Lim S (n + 2 + 20 * (k + 1)) → DOk (n + 200) (rec (S.code, S.at_, S.seed, k + 1, B)) := fun S B hB hS => ih _ ⟨⟨by simp only; omega, by simp only; omega, by simp only; omega⟩, hS⟩ (by simp only; omega)
    have l1 := hL.one (k := 5)
    refine DOk.bif (go _ _ (by omega) (l1.mono (by omega))) ?_
    have step : ∀ (c' : List Int) (a' s' f t : Int) (g : Bool) (q : Int) (id : List UInt8), Lim (Ak.mk c' a' s') (n + 2 + 20 * k + 6) → DOk (n + 200) (rec ((Ai (bif g then (Am (Aa (Ak.mk c' a' s') q).2 4).2 else (Aa (Ak.mk c' a' s') q).2) id f t).2.code, (Ai (bif g then (Am (Aa (Ak.mk c' a' s') q).2 4).2 else (Aa (Ak.mk c' a' s') q).2) id f t).2.at_, (Ai (bif g then (Am (Aa (Ak.mk c' a' s') q).2 4).2 else (Aa (Ak.mk c' a' s') q).2) id f t).2.seed, k + 1, A ++ ([(Ai (bif g then (Am (Aa (Ak.mk c' a' s') q).2 4).2 else (Aa (Ak.mk c' a' s') q).2) id f t).1] : List Ar))) := fun c' a' s' f t g q id hS =>
      go _ _ (by simp only [List.length_append, List.length_cons, List.length_nil]; omega) ((Lim.draw3 (Lim.bif1 (k := 4) (hS.pick (k := q)))).mono (by omega))
    refine DOk.bif ?_ ?_
    · exact DOk.bif (step _ _ _ _ _ _ _ _ ((l1.one.pick).mono (by omega))) (step _ _ _ _ _ _ _ _ ((l1.one.pick).mono (by omega)))
    · exact DOk.bif (step _ _ _ _ _ _ _ _ ((l1.one).mono (by omega))) (step _ _ _ _ _ _ _ _ ((l1.one).mono (by omega)))
  · simp only [hk, decide_false, Bool.cond_false]
    exact ⟨hL.mono (by omega), by simp only; omega⟩
theorem Lim.dok {s : Ak} {n : Int} (h : Lim s n) : Lim (Ax s).2 (n + 200) := (Lim.draw4_ok h).lim

theorem limB {α : Type} {n : Int} {c : Bool} {a b : α × Ak} (h1 : Lim a.2 n) (h2 : Lim b.2 n) : Lim (bif c then a else b).2 n := by cases c <;> assumption
theorem Lim.bent {s : Ak} {n : Int} (h : Lim s n) : Lim (Bq s).2 (n + 40) := by
  simp only [Bq]
  have e : ∀ {S : Ak} {m : Int}, Lim S m → m ≤ n + 20 → ∀ l, Lim (Aj S l).2.1 (n + 40) := fun hS hm l => Lim.mono (Lim.among hS) (by omega)
  exact limB (e (Lim.pick (Lim.draw3 (Lim.pick (Lim.pick (Lim.text h))))) (by omega) _) (limB (e (Lim.pick (Lim.draw3 (Lim.pick (Lim.pick (Lim.text h))))) (by omega) _) (limB (e (Lim.pick (Lim.draw3 (Lim.pick (Lim.pick (Lim.text h))))) (by omega) _) (limB (e (Lim.pick (Lim.draw3 (Lim.pick (Lim.pick (Lim.text h))))) (by omega) _) (limB (e (Lim.pick (Lim.draw3 (Lim.pick (Lim.pick (Lim.text h))))) (by omega) _) (Lim.mono (Lim.pick (Lim.draw3 (Lim.pick (Lim.pick (Lim.text h))))) (by omega))))))
structure DMk (n : Int) (r : AB × Ak) : Prop where
  lim : Lim r.2 n
  len : r.1.Airways.length ≤ 30
theorem DMk.bif {n : Int} {c : Bool} {a b : AB × Ak} (h1 : DMk n a) (h2 : DMk n b) : DMk n (bif c then a else b) := by cases c <;> assumption
theorem among2 {s : Ak} {n x y B : Int} (h : Lim s n) (hx : x ≤ B) (hy : y ≤ B) : (Aj s ([x, y] : List Int)).1 ≤ B := by
  have hn := h.num (k := (([x, y] : List Int).length : Int))
  simp only [Aj]
  have h2 : (Aa s (([x, y] : List Int).length : Int)).1 < 2 := hn.2 (by simp)
  generalize (Aa s (([x, y] : List Int).length : Int)).1 = v at hn h2
  have hv : v = 0 ∨ v = 1 := by omega
  rcases hv with rfl | rfl
  · exact hx
  · exact hy
theorem among_rng {s : Ak} {n x y : Int} (h : Lim s n) (hxy : x ≤ y) : x ≤ (Aj s ([x, y] : List Int)).1 ∧ (Aj s ([x, y] : List Int)).1 ≤ y := by
  refine ⟨?_, among2 h hxy (Int.le_refl _)⟩
  have hn := h.num (k := (([x, y] : List Int).length : Int))
  simp only [Aj]
  have h2 : (Aa s (([x, y] : List Int).length : Int)).1 < 2 := hn.2 (by simp)
  generalize (Aa s (([x, y] : List Int).length : Int)).1 = v at hn h2
  have hv : v = 0 ∨ v = 1 := by omega
  rcases hv with rfl | rfl
  · exact Int.le_refl _
  · exact hxy
theorem Lim.draw4 {s : Ak} {n : Int} (h : Lim s n) : DMk (n + 500) (Al s) := by
  have h0 := Lim.draw4_ok h
  have h1 := h0.lim.pick (k := 20)
  have hlen := h0.len
  simp only [Al]
  refine DMk.bif ⟨h1.among.mono (by omega), by simp only; omega⟩ (DMk.bif ⟨h1.bent.mono (by omega), by simp only [List.length_append, List.length_cons, List.length_nil]; omega⟩ (DMk.bif ?_ ⟨h1.mono (by omega), by simp only; omega⟩))
  have hm := among2 (B := 25) h1 (x := 24) (y := 25) (by omega) (by omega)
  have h2 := h1.among (l := ([24, 25] : List Int))
  generalize hM : (Aj (Aa (Ax s).2 20).2 ([24, 25] : List Int)).1 = M at hm
  refine LOOP_post (fun (x : (List Int) × Int × Int × (List Ar) × Int) => (0 ≤ x.2.2.2.2 ∧ (x.2.2.2.1.length : Int) = x.2.2.2.2 ∧ (x.2.2.2.2 ≤ M ∨ x.2.2.2.2 = 0)) ∧ Lim (Ak.mk x.1 x.2.1 x.2.2.1) (n + 210 + 8 * x.2.2.2.2)) (fun x => (M - x.2.2.2.2).toNat) (fun _ r => DMk (n + 500) r) (fun rec x hI ih => ?_) _ _ ⟨by simp, h2.mono (by simp only; omega)⟩ (by simp)
  obtain ⟨c, a, sd, A, k⟩ := x
  obtain ⟨⟨g0, g1, g2⟩, hL⟩ := hI
  simp only at g0 g1 g2 hL
  simp only [m_spec_l04Draw_b1, hM]
  by_cases hk : k < M
  · simp only [hk, decide_true, Bool.cond_true]
    have go : ∀ (S : Ak) (B : List Ar), (B.length : Int) = k + 1 → Lim S (n + 210 + 8 * (k + 1)) → DMk (n + 500) (rec (S.code, S.at_, S.seed, B, k + 1)) := fun S B hB hS => ih _ ⟨by simp only; omega, hS⟩ (by simp only; omega)
    exact go _ _ (by simp only [List.length_append, List.length_cons, List.length_nil]; omega) (Lim.mono (Lim.draw3 hL) (by omega))
  · simp only [hk, decide_false, Bool.cond_false]
    exact ⟨hL.mono (by omega), by simp only; omega⟩
theorem Lim.dmk {s : Ak} {n : Int} (h : Lim s n) : Lim (Al s).2 (n + 500) := (Lim.draw4 h).lim

/-! ## Names, mines: both models judge alike -/
theorem name_eq (s : List UInt8) : CU s = Cb s := by
  rw [Bool.eq_iff_iff]
  have h1 := LOOP_all (b := CT s) (n := s.length) (fun rec k i _ => rfl) (k := fun _ => true) ((s.length : Int) - 0 : Int).toNat.succ 0 (by omega) (by omega) (by omega)
  have h2 := LOOP_all (b := m_spec_l01Name_b1 s) (n := s.length) (fun rec k i _ => rfl) (k := fun _ => true) ((s.length : Int) - 0 : Int).toNat.succ 0 (by omega) (by omega) (by omega)
  simp only [CU, Cb, CN]
  change (LOOP _ _ (((s.length : Int) - 0 : Int).toNat + 1) _ = true ↔ _) at h1
  change (LOOP _ _ (((s.length : Int) - 0 : Int).toNat + 1) _ = true ↔ _) at h2
  have hl : strB .eql s [] = decide ((s.length : Int) < 1) := by
    cases s <;> simp [strB]; omega
  rw [hl]
  generalize ((s.getD (0 : Int).toNat 0).toNat : Int) = c
  simp only [Cy]
  simp only [Bool.cond_eq_ite, Bool.or_eq_true, Bool.not_eq_true', Bool.and_eq_false_iff, decide_eq_true_eq, decide_eq_false_iff_not]
  have e : (∀ j : Nat, (0 : Int) ≤ j → j < s.length → ((decide ((((s.getD (j : Int).toNat 0).toNat : Nat) : Int) < 97) || decide (122 < (((s.getD (j : Int).toNat 0).toNat : Nat) : Int))) && (decide ((((s.getD (j : Int).toNat 0).toNat : Nat) : Int) < 48) || decide (57 < (((s.getD (j : Int).toNat 0).toNat : Nat) : Int)))) = false) ↔ (∀ j : Nat, (0 : Int) ≤ j → j < s.length → (!Cy (((s.getD (j : Int).toNat 0).toNat : Nat) : Int) && !Db (((s.getD (j : Int).toNat 0).toNat : Nat) : Int)) = false) := by
    refine forall_congr' fun j => forall_congr' fun _ => forall_congr' fun _ => ?_
    generalize (((s.getD (j : Int).toNat 0).toNat : Nat) : Int) = c
    simp only [Cy, Db, Bool.and_eq_false_iff, Bool.or_eq_false_iff, Bool.not_eq_false', Bool.and_eq_true, decide_eq_true_eq, decide_eq_false_iff_not]
    omega
  split <;> rename_i h1' <;> split <;> rename_i h2'
  · simp
  · exfalso; omega
  · exfalso; omega
  · rw [h1, h2, e]
theorem within_eq (n l h : Int) : Bl n l h = AR n l h := rfl
theorem bytes_tri : ∀ (a b : List UInt8), (Op.bytesLess a b || a == b) = !Op.bytesLess b a
  | [], [] => rfl
  | [], _ :: _ => rfl
  | _ :: _, [] => rfl
  | x :: a, y :: b => by
    have ih := bytes_tri a b
    simp only [Op.bytesLess]
    by_cases h1 : x < y
    · have h2 : ¬ y < x := fun h => absurd (UInt8.lt_trans h1 h) (UInt8.lt_irrefl _)
      have h3 : ¬ (y == x) = true := fun h => by rw [beq_iff_eq] at h; subst h; exact h2 h1
      simp [h1, h2, h3]
    · by_cases h2 : y < x
      · have h3 : ¬ (x == y) = true := fun h => by rw [beq_iff_eq] at h; subst h; exact h1 h2
        have h4 : ¬ x = y := fun h => h3 (by simp [h])
        simp [h1, h2, h4]
      · have h3 : x = y := UInt8.le_antisymm (UInt8.not_lt.1 h2) (UInt8.not_lt.1 h1)
        subst h3
        simp only [h1, decide_false, Bool.false_or, beq_self_eq_true, Bool.true_and]
        rw [← ih]
        simp
theorem strleq_geq (a b : List UInt8) : strB .leq a b = strB .geq b a := bytes_tri a b
theorem airway_eq (a : Ar) : CG a = Dc a := by
  simp only [CG, Dc, name_eq, BP, within_eq]
  cases Cb a.Id <;> cases AR a.From 0 15 <;> cases AR a.To 0 15 <;> by_cases h : a.From = a.To <;> (try simp [h]) <;> (have hb : (a.From == a.To) = false := by simpa using h) <;> simp [bne, hb, Bool.and_assoc]
theorem mine_eq (m : AB) : BO m = AD m := by
  rw [Bool.eq_iff_iff]
  have h1 := LOOP_all (b := Dr m) (n := m.Airways.length) (fun rec k i _ => rfl) (k := fun _ => true) (((m.Airways.length : Int) - 0 : Int).toNat + 1) 0 (by omega) (by omega) (by omega)
  have h2 := LOOP_all (b := Dx m) (n := m.Airways.length) (fun rec k i _ => rfl) (k := fun _ => decide ((m.Airways.length : Int) ≤ 24)) (((m.Airways.length : Int) - 0 : Int).toNat + 1) 0 (by omega) (by omega) (by omega)
  simp only [BO, AD, within_eq]
  cases hj : AR m.Junctions 1 16 with
  | false => simp
  | true =>
    simp only [Bool.not_true, Bool.false_or, Bool.cond_false]
    by_cases hl : (24 : Int) < (m.Airways.length : Int)
    · simp only [hl, decide_true, Bool.cond_true]
      rw [h2]
      simp only [Bool.false_eq_true, false_iff]
      rintro ⟨_, h⟩
      simp at h; omega
    · simp only [hl, decide_false, Bool.cond_false]
      rw [h1, h2]
      simp only [airway_eq, strleq_geq, CV, Bm, within_eq, Bx]
      have e : ∀ p q r s : Bool, ((!p || !(q && r)) || s) = (((!p || !q) || !r) || s) := by decide
      simp only [e]
      simp; omega
/-- what a mine's numbers are -/
def AirIn (J : Int) (a : Ar) : Prop := 0 ≤ a.From ∧ a.From < J ∧ 0 ≤ a.To ∧ a.To < J ∧ a.From ≠ a.To ∧ 1 ≤ a.Length ∧ a.Length ≤ 10000 ∧ 50 ≤ a.Section ∧ a.Section ≤ 5000
def MineIn (m : AB) : Prop := (1 ≤ m.Junctions ∧ m.Junctions ≤ 16) ∧ m.Airways.length ≤ 24 ∧ ∀ a ∈ m.Airways, AirIn m.Junctions a
theorem l03Ok_imp {a : Ar} (h : Dc a = true) : a.From ≠ a.To ∧ 1 ≤ a.Length ∧ a.Length ≤ 10000 ∧ 50 ≤ a.Section ∧ a.Section ≤ 5000 := by
  simp only [Dc] at h
  cases hc : (((!(Cb a.Id)) || (!(AR a.From 0 15))) || (!(AR a.To 0 15))) || (a.From == a.To) with
  | true => rw [hc] at h; simp at h
  | false =>
    rw [hc] at h
    simp only [Bool.cond_false, AR, Bool.and_eq_true, decide_eq_true_eq] at h
    simp only [Bool.or_eq_false_iff, beq_eq_false_iff_ne, ne_eq] at hc
    exact ⟨hc.2, by omega⟩
theorem l04Ok_imp {m : AB} (h : AD m = true) : MineIn m := by
  have h2 := LOOP_all (b := Dx m) (n := m.Airways.length) (fun rec k i _ => rfl) (k := fun _ => decide ((m.Airways.length : Int) ≤ 24)) (((m.Airways.length : Int) - 0 : Int).toNat + 1) 0 (by omega) (by omega) (by omega)
  simp only [AD] at h
  cases hj : AR m.Junctions 1 16 with
  | false => rw [hj] at h; simp at h
  | true =>
    rw [hj] at h
    simp only [Bool.not_true, Bool.cond_false] at h
    rw [h2] at h
    obtain ⟨h3, h4⟩ := h
    simp only [AR, Bool.and_eq_true, decide_eq_true_eq] at hj h4
    refine ⟨⟨hj.1, hj.2⟩, by omega, all_at.2 fun j hjl => ?_⟩
    have := h3 j (by omega) hjl
    have hw : IntKind.wrap .i64 (m.Junctions - 1) = m.Junctions - 1 := wr64 (by omega)
    simp only [Bool.or_eq_false_iff, Bool.not_eq_false', Bx, AR, Bool.and_eq_true, decide_eq_true_eq, hw] at this
    have h5 := l03Ok_imp this.1.1.1
    unfold AirIn
    omega
theorem ValidMine_imp {m : AB} (h : BO m = true) : MineIn m := l04Ok_imp (by rw [← mine_eq]; exact h)
theorem MineIn.at {m : AB} {i : Int} (h : MineIn m) (hi : 0 ≤ i ∧ i < m.Airways.length) : AirIn m.Junctions (at' m.Airways i) := at_all h.2.2 hi
/-! ### Lists in the order of their names -/
section
variable {α : Type} [Inhabited α] {list : List α} {N : Int}
theorem valid_iff {b : (Int → Bool) → (Int → Bool) → Int → Bool} {k : Int → Bool} (v : α → Bool) (id : α → List UInt8)
    (hb : ∀ rec k i, 0 ≤ i → b rec k i = bif decide (i < (list.length : Int)) then (bif (!(v (at' list i))) || ((decide (0 < i)) && (strB .geq (id (at' list (i - 1))) (id (at' list i)))) then false else rec (i + 1)) else k i) :
    LOOP b k (((list.length : Int) - 0 : Int).toNat + 1) 0 = true ↔ (∀ j : Nat, (j : Int) < list.length → v (at' list j) = true ∧ (decide (0 < (j : Int)) && strB .geq (id (at' list ((j : Int) - 1))) (id (at' list j))) = false) ∧ k list.length = true := by
  rw [LOOP_all (n := list.length) hb _ 0 (by omega) (by omega) (by omega)]
  simp only [Bool.or_eq_false_iff, Bool.not_eq_false']
  constructor
  · rintro ⟨h1, h2⟩; exact ⟨fun j hj => h1 j (by omega) (by omega), h2⟩
  · rintro ⟨h1, h2⟩; exact ⟨fun j _ hj => h1 j (by omega), h2⟩
end
theorem l00In_imp {n a b : Int} (h : AR n a b = true) : a ≤ n ∧ n ≤ b := by simpa [AR] using h
theorem within_imp {n a b : Int} (h : Bl n a b = true) : a ≤ n ∧ n ≤ b := by simpa [Bl] using h

/-! ## Flows: both models judge alike -/
theorem allWithin_iff {list : List Int} {lo hi : Int} : BI list lo hi = true ↔ ∀ y ∈ list, lo ≤ y ∧ y ≤ hi := by
  simp only [BI, Bool.not_eq_true']
  rw [← Bool.not_eq_true, cf_int64]
  simp only [CK, Bl, Bool.not_eq_true', Bool.and_eq_false_iff, decide_eq_false_iff_not]
  constructor
  · intro h y hy
    refine Decidable.byContradiction fun hn => h ⟨y, hy, ?_⟩
    omega
  · rintro h ⟨y, hy, h2⟩
    have := h y hy
    omega

/-! ## Rising numbers: both models judge alike -/

/-! ## The least times along ways: going round till nothing changes, and going round as often as there are places -/
section
variable (J : Nat) (safe : Int → Int → Bool)
def rlx (e : Int × Int × Int) (a : List Int) : List Int :=
  bif (decide (0 ≤ at' a e.1) && (decide (at' a e.2.1 < 0) || decide (at' a e.1 + e.2.2 < at' a e.2.1))) && safe e.2.1 (at' a e.1 + e.2.2) then put' a e.2.1 (at' a e.1 + e.2.2) else a
def swp (es : List (Int × Int × Int)) (a : List Int) : List Int := es.foldl (fun a e => rlx safe e a) a
def swps (es : List (Int × Int × Int)) : Nat → List Int → List Int
  | 0, a => a
  | k + 1, a => swps es k (swp safe es a)
def EdOk (e : Int × Int × Int) : Prop := 0 ≤ e.1 ∧ e.1 < J ∧ 0 ≤ e.2.1 ∧ e.2.1 < J ∧ 0 ≤ e.2.2
def Fixd (es : List (Int × Int × Int)) (a : List Int) : Prop := ∀ e ∈ es, rlx safe e a = a
variable {J safe}
theorem rlx_len (e : Int × Int × Int) (a : List Int) : (rlx safe e a).length = a.length := by
  simp only [rlx]
  cases (decide (0 ≤ at' a e.1) && (decide (at' a e.2.1 < 0) || decide (at' a e.1 + e.2.2 < at' a e.2.1))) && safe e.2.1 (at' a e.1 + e.2.2) <;> simp [put_len]
theorem swp_len : ∀ (es : List (Int × Int × Int)) (a : List Int), (swp safe es a).length = a.length
  | [], _ => rfl
  | e :: es, a => by
    show (swp safe es (rlx safe e a)).length = _
    rw [swp_len es, rlx_len]
/-- an edge that has nothing to give -/
def Rel (safe : Int → Int → Bool) (e : Int × Int × Int) (a : List Int) : Prop := safe e.2.1 (at' a e.1 + e.2.2) = true → 0 ≤ at' a e.2.1 ∧ at' a e.2.1 ≤ at' a e.1 + e.2.2
theorem rlx_cases (e : Int × Int × Int) (a : List Int) : rlx safe e a = a ∨ (0 ≤ at' a e.1 ∧ (at' a e.2.1 < 0 ∨ at' a e.1 + e.2.2 < at' a e.2.1) ∧ safe e.2.1 (at' a e.1 + e.2.2) = true ∧ rlx safe e a = put' a e.2.1 (at' a e.1 + e.2.2)) := by
  simp only [rlx]
  cases h : (decide (0 ≤ at' a e.1) && (decide (at' a e.2.1 < 0) || decide (at' a e.1 + e.2.2 < at' a e.2.1))) && safe e.2.1 (at' a e.1 + e.2.2) with
  | false => exact .inl rfl
  | true =>
    simp only [Bool.and_eq_true, Bool.or_eq_true, decide_eq_true_eq] at h
    exact .inr ⟨h.1.1, h.1.2, h.2, rfl⟩
structure Inv (J : Nat) (safe : Int → Int → Bool) (F G : List Int) (c : Int) (a : List Int) : Prop where
  len : a.length = J
  sub : ∀ u ∈ G, u ∈ F
  inF : ∀ u ∈ F, 0 ≤ u ∧ u < J ∧ 0 ≤ at' a u ∧ at' a u ≤ c
  out : ∀ v : Int, 0 ≤ v → v < J → v ∉ F → at' a v < 0 ∨ c ≤ at' a v
  new : ∀ u ∈ F, u ∈ G ∨ c ≤ at' a u
theorem step_keeps {F G : List Int} {c : Int} {a : List Int} (h : Inv J safe F G c a) {e : Int × Int × Int} (he : EdOk J e) (hG : e.1 ∈ G → Rel safe e a) :
    Inv J safe F G c (rlx safe e a) ∧ (∀ u ∈ F, at' (rlx safe e a) u = at' a u) ∧ (∀ e' : Int × Int × Int, EdOk J e' → e'.1 ∈ F → Rel safe e' a → Rel safe e' (rlx safe e a)) := by
  rcases rlx_cases (safe := safe) e a with h0 | ⟨h1, h2, h3, h4⟩
  · rw [h0]; exact ⟨h, fun _ _ => rfl, fun _ _ _ h => h⟩
  · rw [h4]
    obtain ⟨b1, b2, b3, b4, b5⟩ := he
    have hlen := h.len
    have hnG : e.1 ∉ G := fun hg => by have := hG hg h3; omega
    have hc : c ≤ at' a e.1 := by
      by_cases hF : e.1 ∈ F
      · exact (h.new _ hF).resolve_left hnG
      · rcases h.out e.1 b1 b2 hF with h | h
        · omega
        · exact h
    have hvF : e.2.1 ∉ F := fun hF => by have := h.inF _ hF; omega
    have hne : ∀ u ∈ F, at' (put' a e.2.1 (at' a e.1 + e.2.2)) u = at' a u := fun u hu => put_at_ne b3 (h.inF u hu).1 (fun e0 => hvF (e0 ▸ hu))
    have hat : at' (put' a e.2.1 (at' a e.1 + e.2.2)) e.2.1 = at' a e.1 + e.2.2 := put_at ⟨b3, by omega⟩
    refine ⟨⟨by rw [put_len]; exact hlen, h.sub, fun u hu => ?_, fun v hv0 hv hvn => ?_, fun u hu => ?_⟩, hne, fun e' he' hu' hr => ?_⟩
    · rw [hne u hu]; exact h.inF u hu
    · by_cases hvv : v = e.2.1
      · subst hvv; rw [hat]; omega
      · rw [put_at_ne b3 hv0 (fun e0 => hvv e0.symm)]; exact h.out v hv0 hv hvn
    · rw [hne u hu]; exact h.new u hu
    · intro hs
      rw [hne _ hu'] at hs ⊢
      have := hr hs
      by_cases hvv : e'.2.1 = e.2.1
      · rw [hvv] at this ⊢; rw [hat]; omega
      · rw [put_at_ne b3 he'.2.2.1 (fun e0 => hvv e0.symm)]; exact this
theorem self_rel {F : List Int} {a : List Int} {e : Int × Int × Int} (he : EdOk J e) (hl : a.length = J) (hu : 0 ≤ at' a e.1) : Rel safe e (rlx safe e a) := by
  obtain ⟨b1, b2, b3, b4, b5⟩ := he
  rcases rlx_cases (safe := safe) e a with h0 | ⟨h1, h2, h3, h4⟩
  · rw [h0]
    intro hs
    simp only [rlx] at h0
    by_cases hc : at' a e.2.1 < 0 ∨ at' a e.1 + e.2.2 < at' a e.2.1
    · exfalso
      have ht : ((decide (0 ≤ at' a e.1) && (decide (at' a e.2.1 < 0) || decide (at' a e.1 + e.2.2 < at' a e.2.1))) && safe e.2.1 (at' a e.1 + e.2.2)) = true := by simp [hu, hs, hc]
      rw [ht] at h0
      have : at' (put' a e.2.1 (at' a e.1 + e.2.2)) e.2.1 = at' a e.1 + e.2.2 := put_at ⟨b3, by omega⟩
      simp only [Bool.cond_true] at h0
      rw [h0] at this
      omega
    · omega
  · rw [h4]
    have hne : e.1 ≠ e.2.1 := fun e0 => by rw [← e0] at h2; omega
    have hat : at' (put' a e.2.1 (at' a e.1 + e.2.2)) e.2.1 = at' a e.1 + e.2.2 := put_at ⟨b3, by omega⟩
    intro _
    rw [hat, put_at_ne b3 b1 (fun e0 => hne e0.symm)]
    omega
theorem sweep_keeps : ∀ (es : List (Int × Int × Int)) {F G : List Int} {c : Int} {a : List Int}, Inv J safe F G c a → (∀ e ∈ es, EdOk J e) → (∀ e ∈ es, e.1 ∈ G → Rel safe e a) →
    Inv J safe F G c (swp safe es a) ∧ (∀ u ∈ F, at' (swp safe es a) u = at' a u) ∧ (∀ e ∈ es, e.1 ∈ F → Rel safe e (swp safe es a)) ∧ (∀ e' : Int × Int × Int, EdOk J e' → e'.1 ∈ F → Rel safe e' a → Rel safe e' (swp safe es a))
  | [], F, G, c, a, h, _, _ => ⟨h, fun _ _ => rfl, by simp, fun _ _ _ h => h⟩
  | e :: es, F, G, c, a, h, hok, hG => by
    have he := hok e List.mem_cons_self
    obtain ⟨s1, s2, s3⟩ := step_keeps h he (hG e List.mem_cons_self)
    obtain ⟨t1, t2, t3, t4⟩ := sweep_keeps es s1 (fun e' h' => hok e' (List.mem_cons_of_mem _ h')) (fun e' h' hg => s3 e' (hok e' (List.mem_cons_of_mem _ h')) (h.sub _ hg) (hG e' (List.mem_cons_of_mem _ h') hg))
    refine ⟨t1, fun u hu => (t2 u hu).trans (s2 u hu), fun e' h' hF => ?_, fun e' hok' hF hr => t4 e' hok' hF (s3 e' hok' hF hr)⟩
    rcases List.mem_cons.1 h' with e0 | h'
    · subst e0
      exact t4 e' he hF (self_rel (F := F) he h.len (h.inF _ hF).2.2.1)
    · exact t3 e' h' hF
theorem fix_of {es : List (Int × Int × Int)} {F : List Int} {a : List Int} (hok : ∀ e ∈ es, EdOk J e) (hr : ∀ e ∈ es, e.1 ∈ F → Rel safe e a) (ho : ∀ v : Int, 0 ≤ v → v < J → 0 ≤ at' a v → v ∈ F) : Fixd safe es a := by
  intro e he
  rcases rlx_cases (safe := safe) e a with h0 | ⟨h1, h2, h3, h4⟩
  · exact h0
  · obtain ⟨b1, b2, _⟩ := hok e he
    have := hr e he (ho e.1 b1 b2 h1) h3
    omega
theorem list_min {f : Int → Int} : ∀ {L : List Int}, L ≠ [] → ∃ x ∈ L, ∀ y ∈ L, f x ≤ f y
  | [x], _ => ⟨x, by simp, by simp⟩
  | x :: y :: r, _ => by
    obtain ⟨z, hz, h⟩ := list_min (f := f) (L := y :: r) (by simp)
    by_cases hx : f x ≤ f z
    · refine ⟨x, by simp, fun q hq => ?_⟩
      rcases List.mem_cons.1 hq with e | hq
      · subst e; omega
      · have := h q hq; omega
    · refine ⟨z, List.mem_cons_of_mem _ hz, fun q hq => ?_⟩
      rcases List.mem_cons.1 hq with e | hq
      · subst e; omega
      · exact h q hq
theorem nodup_len : ∀ {F L : List Int}, F.Nodup → (∀ x ∈ F, x ∈ L) → F.length ≤ L.length
  | [], _, _, _ => by simp
  | x :: F, L, hn, hs => by
    rw [List.nodup_cons] at hn
    have hx := hs x List.mem_cons_self
    have := nodup_len (F := F) (L := L.erase x) hn.2 fun y hy => (List.mem_erase_of_ne (by intro e; subst e; exact hn.1 hy)).2 (hs y (List.mem_cons_of_mem _ hy))
    rw [List.length_erase_of_mem hx] at this
    have : 0 < L.length := List.length_pos_of_mem hx
    simp; omega
def Good (J : Nat) (safe : Int → Int → Bool) (es : List (Int × Int × Int)) (r : Nat) (a : List Int) : Prop := ∃ F G c, F.Nodup ∧ F.length = r ∧ Inv J safe F G c a ∧ ∀ e ∈ es, e.1 ∈ G → Rel safe e a
theorem good_next {es : List (Int × Int × Int)} {r : Nat} {a : List Int} (hok : ∀ e ∈ es, EdOk J e) (h : Good J safe es r a) : Good J safe es (r + 1) (swp safe es a) ∨ Fixd safe es (swp safe es a) := by
  obtain ⟨F, G, c, hn, hl, hi, hG⟩ := h
  obtain ⟨t1, t2, t3, _⟩ := sweep_keeps es hi hok hG
  generalize swp safe es a = b at t1 t2 t3
  by_cases hL : (irange 0 J).filter (fun v => !(F.contains v) && decide (0 ≤ at' b v)) = []
  · refine .inr (fix_of (F := F) hok t3 fun v h0 h1 h2 => ?_)
    have := List.filter_eq_nil_iff.1 hL v (mem_irange.2 ⟨h0, by omega⟩)
    simpa [h2] using this
  · obtain ⟨x, hx, hmin⟩ := list_min (f := at' b) hL
    rw [List.mem_filter, mem_irange] at hx
    obtain ⟨⟨x0, x1⟩, hx2⟩ := hx
    simp only [Bool.and_eq_true, Bool.not_eq_true', decide_eq_true_eq] at hx2
    have hxF : x ∉ F := by simpa using hx2.1
    refine .inl ⟨x :: F, F, at' b x, List.nodup_cons.2 ⟨hxF, hn⟩, by simp [hl], ⟨t1.len, fun u hu => List.mem_cons_of_mem _ hu, fun u hu => ?_, fun v hv0 hv hvn => ?_, fun u hu => ?_⟩, t3⟩
    · rcases List.mem_cons.1 hu with e | hu
      · subst e; exact ⟨x0, by omega, hx2.2, Int.le_refl _⟩
      · have h1 := t1.inF u hu
        rcases t1.out x x0 (by omega) hxF with h2 | h2
        · omega
        · exact ⟨h1.1, h1.2.1, h1.2.2.1, by omega⟩
    · by_cases hv1 : 0 ≤ at' b v
      · refine .inr (hmin v ?_)
        rw [List.mem_filter, mem_irange]
        have : v ∉ F := fun h => hvn (List.mem_cons_of_mem _ h)
        exact ⟨⟨hv0, by omega⟩, by simp [this, hv1]⟩
      · exact .inl (by omega)
    · rcases List.mem_cons.1 hu with e | hu
      · subst e; exact .inr (Int.le_refl _)
      · exact .inl hu
theorem fix_swp : ∀ {es : List (Int × Int × Int)} {a : List Int}, Fixd safe es a → swp safe es a = a
  | [], _, _ => rfl
  | e :: es, a, h => by
    show swp safe es (rlx safe e a) = a
    rw [h e List.mem_cons_self]
    exact fix_swp fun e' h' => h e' (List.mem_cons_of_mem _ h')
theorem fix_swps {es : List (Int × Int × Int)} {a : List Int} (h : Fixd safe es a) : ∀ k, swps safe es k a = a
  | 0 => rfl
  | k + 1 => by rw [swps, fix_swp h]; exact fix_swps h k
theorem good_all {es : List (Int × Int × Int)} (hok : ∀ e ∈ es, EdOk J e) : ∀ (k r : Nat) (a : List Int), Good J safe es r a → Good J safe es (r + k) (swps safe es k a) ∨ Fixd safe es (swps safe es k a)
  | 0, r, a, h => .inl h
  | k + 1, r, a, h => by
    rcases good_next hok h with h1 | h1
    · have := good_all hok k (r + 1) _ h1
      rw [show r + (k + 1) = r + 1 + k by omega]; exact this
    · refine .inr ?_
      show Fixd safe es (swps safe es k (swp safe es a))
      rw [fix_swps h1]; exact h1
theorem good_lt {es : List (Int × Int × Int)} {r : Nat} {a : List Int} (h : Good J safe es r a) : r ≤ J := by
  obtain ⟨F, G, c, hn, hl, hi, _⟩ := h
  have := nodup_len (L := irange 0 J) hn fun x hx => mem_irange.2 ⟨(hi.inF x hx).1, by have := (hi.inF x hx).2.1; omega⟩
  rw [irange_len] at this; omega
theorem swps_add (es : List (Int × Int × Int)) : ∀ (i j : Nat) (a : List Int), swps safe es (i + j) a = swps safe es j (swps safe es i a)
  | 0, j, a => by rw [Nat.zero_add]; rfl
  | i + 1, j, a => by rw [show i + 1 + j = (i + j) + 1 by omega]; exact swps_add es i j _
/-- all rounds that end with nothing to give end alike -/
theorem fix_same {es : List (Int × Int × Int)} {i j : Nat} {a : List Int} (hi : Fixd safe es (swps safe es i a)) (hj : Fixd safe es (swps safe es j a)) : swps safe es i a = swps safe es j a := by
  by_cases h : i ≤ j
  · rw [show j = i + (j - i) by omega, swps_add, fix_swps hi]
  · rw [show i = j + (i - j) by omega, swps_add, fix_swps hj]
/-- from one place on: as many rounds as there are places are enough -/
theorem enough {es : List (Int × Int × Int)} {a0 : List Int} {s c : Int} (hok : ∀ e ∈ es, EdOk J e) (hl : a0.length = J) (hs : 0 ≤ s ∧ s < J) (hc : 0 ≤ c) (h1 : at' a0 s = c) (h2 : ∀ v : Int, 0 ≤ v → v < J → v ≠ s → at' a0 v < 0) : Fixd safe es (swps safe es J a0) := by
  have hg : Good J safe es 1 a0 := by
    refine ⟨[s], [], c, by simp, rfl, ⟨hl, by simp, fun u hu => ?_, fun v hv0 hv hvn => .inl (h2 v hv0 hv (by simpa using hvn)), fun u hu => ?_⟩, by simp⟩
    · simp at hu; subst hu; exact ⟨hs.1, hs.2, by omega, by omega⟩
    · simp at hu; subst hu; exact .inr (by omega)
  rcases good_all hok J 1 a0 hg with h | h
  · have := good_lt h; omega
  · exact h
end
/-! ### How great the times are, and why the rounds end -/
def cntS : List Int → Int
  | [] => 0
  | x :: r => (if x < 0 then 0 else 1) + cntS r
def pot : List Int → Nat
  | [] => 0
  | x :: r => (if x < 0 then 16000000001 else x.toNat) + pot r
def SmB (J : Int) (a : List Int) : Prop := (a.length : Int) = J ∧ ∀ j : Int, 0 ≤ j → j < J → at' a j ≤ 1000000000 * cntS a
theorem cntS_rng : ∀ a : List Int, 0 ≤ cntS a ∧ cntS a ≤ a.length
  | [] => by simp [cntS]
  | x :: r => by have := cntS_rng r; simp only [cntS, List.length_cons]; split <;> omega
theorem set_cnt : ∀ (a : List Int) (i : Nat) (t : Int), i < a.length → 0 ≤ t → cntS (a.set i t) = cntS a + (if a.getD i 0 < 0 then 1 else 0)
  | [], _, _, h, _ => by simp at h
  | x :: r, 0, t, _, ht => by
    have : ¬ t < 0 := by omega
    simp only [List.set_cons_zero, cntS, this, if_false, List.getD_cons_zero]; split <;> omega
  | x :: r, i + 1, t, h, ht => by
    have := set_cnt r i t (by simpa using h) ht
    simp only [List.set_cons_succ, cntS, List.getD_cons_succ]; omega
theorem set_pot : ∀ (a : List Int) (i : Nat) (t : Int), i < a.length → 0 ≤ t → t ≤ 16000000000 → (a.getD i 0 < 0 ∨ t < a.getD i 0) → pot (a.set i t) < pot a
  | [], _, _, h, _, _, _ => by simp at h
  | x :: r, 0, t, _, h0, h1, h2 => by
    have : ¬ t < 0 := by omega
    simp only [List.getD_cons_zero] at h2
    simp only [List.set_cons_zero, pot, this, if_false]
    split <;> omega
  | x :: r, i + 1, t, h, h0, h1, h2 => by
    have := set_pot r i t (by simpa using h) h0 h1 (by simpa using h2)
    simp only [List.set_cons_succ, pot]; omega
theorem at_getD {a : List Int} {j : Int} : at' a j = a.getD j.toNat 0 := rfl
theorem SmB.hi {J : Int} {a : List Int} (h : SmB J a) (hJ : J ≤ 16) {j : Int} (h0 : 0 ≤ j) (h1 : j < J) : at' a j ≤ 16000000000 := by
  have := h.2 j h0 h1
  have := cntS_rng a
  have := h.1
  omega
/-- a time that is set or made less -/
theorem SmB.put {J : Int} {a : List Int} (h : SmB J a) (hJ : J ≤ 16) {u v w : Int} (hu : 0 ≤ u ∧ u < J) (hv : 0 ≤ v ∧ v < J) (h0 : 0 ≤ at' a u) (hw : 0 ≤ w ∧ w ≤ 1000000000) (hc : at' a v < 0 ∨ at' a u + w < at' a v) :
    SmB J (put' a v (at' a u + w)) ∧ pot (put' a v (at' a u + w)) < pot a := by
  have hl := h.1
  have hvl : v.toNat < a.length := by omega
  have h2 := h.2 u hu.1 hu.2
  have hr := cntS_rng a
  have hle : at' a u + w ≤ 16000000000 := by
    rcases hc with hc | hc
    · -- v is not set: so at most 15 are
      have h3 := set_cnt a v.toNat 0 hvl (by omega)
      have h4 := cntS_rng (a.set v.toNat 0)
      rw [List.length_set] at h4
      rw [at_getD] at hc
      rw [if_pos hc] at h3
      omega
    · have := h.hi hJ hv.1 hv.2; omega
  refine ⟨⟨by rw [put_len]; exact hl, fun j hj0 hj => ?_⟩, set_pot a v.toNat _ hvl (by omega) hle (by rw [at_getD] at hc; rw [← at_getD (j := v)] at hc ⊢; exact hc)⟩
  have h3 : cntS (put' a v (at' a u + w)) = _ := set_cnt a v.toNat (at' a u + w) hvl (by omega)
  rw [h3]
  by_cases hjv : j = v
  · subst hjv
    rw [put_at ⟨hj0, by omega⟩]
    rw [at_getD] at hc
    rcases hc with hc | hc
    · rw [if_pos hc]; omega
    · have h5 := h.2 j hj0 hj
      rw [at_getD] at h5
      split <;> omega
  · rw [put_at_ne hv.1 hj0 (fun e => hjv e.symm)]
    have := h.2 j hj0 hj
    split <;> omega
theorem pot_le : ∀ {a : List Int}, (∀ x ∈ a, x ≤ 16000000000) → pot a ≤ 16000000001 * a.length
  | [], _ => by simp [pot]
  | x :: r, h => by
    have h1 := pot_le (a := r) fun y hy => h y (List.mem_cons_of_mem _ hy)
    have h2 := h x List.mem_cons_self
    simp only [pot, List.length_cons]; split <;> omega
theorem SmB.pot {J : Int} {a : List Int} (h : SmB J a) (hJ : J ≤ 16) : pot a ≤ 256000000016 := by
  have := pot_le (a := a) (all_at.2 fun j hj => h.hi hJ (by omega) (by have := h.1; omega))
  have := h.1
  omega
/-- within a round: what there was, what there is, whether it has changed -/
def SmI (J : Int) (a0 a : List Int) (fl : Bool) : Prop := SmB J a ∧ pot a ≤ pot a0 ∧ (fl = true → pot a < pot a0)
theorem SmI.refl {J : Int} {a : List Int} (h : SmB J a) : SmI J a a false := ⟨h, Nat.le_refl _, fun h => by simp at h⟩
theorem SmI.mu {J : Int} {a0 a : List Int} {fl m : Bool} (h : SmI J a0 a fl) (hm : m = true) : pot a + (bif fl then 1 else 0) < pot a0 + (bif m then 1 else 0) := by
  subst hm
  have h1 := h.2.1
  cases fl with
  | true => have := h.2.2 rfl; simp; omega
  | false => simp; omega
theorem SmI.put {J : Int} {a0 a : List Int} {fl : Bool} (h : SmI J a0 a fl) (hJ : J ≤ 16) {u v w : Int} (hu : 0 ≤ u ∧ u < J) (hv : 0 ≤ v ∧ v < J) (h0 : 0 ≤ at' a u) (hw : 0 ≤ w ∧ w ≤ 1000000000) (hc : at' a v < 0 ∨ at' a u + w < at' a v) :
    SmI J a0 (put' a v (at' a u + w)) true := by
  obtain ⟨h1, h2⟩ := h.1.put hJ hu hv h0 hw hc
  have := h.2.1
  exact ⟨h1, by omega, fun _ => by omega⟩
theorem SmB.start {J : Int} {n : Nat} (hJ : 1 ≤ J ∧ J ≤ 16) (hn : n = J.toNat) {s c : Int} (hs : 0 ≤ s ∧ s < J) (hc : 0 ≤ c ∧ c ≤ 1000000000) : SmB J (put' (List.replicate n (-1 : Int)) s c) := by
  subst hn
  have hl : s.toNat < (List.replicate J.toNat (-1 : Int)).length := by simp; omega
  have h3 : cntS (put' (List.replicate J.toNat (-1 : Int)) s c) = _ := set_cnt (List.replicate J.toNat (-1 : Int)) s.toNat c hl hc.1
  have h4 : (List.replicate J.toNat (-1 : Int)).getD s.toNat 0 = -1 := by
    rw [List.getD_eq_getElem?_getD, List.getElem?_eq_getElem hl]; simp
  have h5 := cntS_rng (List.replicate J.toNat (-1 : Int))
  refine ⟨by rw [put_len]; simp; omega, fun j hj0 hj => ?_⟩
  rw [h3, h4]
  by_cases hjs : j = s
  · subst hjs; rw [put_at ⟨hj0, by simp; omega⟩]; simp; omega
  · rw [put_at_ne hs.1 hj0 (fun e => hjs e.symm)]
    have : at' (List.replicate J.toNat (-1 : Int)) j = -1 := by
      have hj' : j.toNat < (List.replicate J.toNat (-1 : Int)).length := by simp; omega
      rw [at_getD, List.getD_eq_getElem?_getD, List.getElem?_eq_getElem hj']; simp
    rw [this]; simp; omega
theorem at_rep {n : Nat} {j x : Int} (h0 : 0 ≤ j) (h : j < n) : at' (List.replicate n x) j = x := by
  have hj' : j.toNat < (List.replicate n x).length := by simp; omega
  rw [at_getD, List.getD_eq_getElem?_getD, List.getElem?_eq_getElem hj']; simp

/-! ## A list of the same number -/
theorem mul_rep {n c : Int} (hn : n = 1) (hc : 1 ≤ c ∧ c ≤ 16) : B1 (IntKind.wrap .u64 n) (IntKind.wrap .u64 c) = (0, c) := by
  subst hn
  have : c = 1 ∨ c = 2 ∨ c = 3 ∨ c = 4 ∨ c = 5 ∨ c = 6 ∨ c = 7 ∨ c = 8 ∨ c = 9 ∨ c = 10 ∨ c = 11 ∨ c = 12 ∨ c = 13 ∨ c = 14 ∨ c = 15 ∨ c = 16 := by omega
  rcases this with h | h | h | h | h | h | h | h | h | h | h | h | h | h | h | h <;> subst h <;> decide
theorem rep_step {xs : List Int} {n c : Int} (h1 : (xs.length : Int) = c) (h2 : 1 ≤ n ∧ n ≤ c) (hc : c ≤ 16) (hlt : n < xs.length) :
    ((cpy xs n.toNat ((pre' xs n).take (min (pre' xs n).length ((xs.length : Int).toNat - n.toNat)))).length : Int) = c ∧ 1 ≤ IntKind.wrap .i64 (n + ((min (pre' xs n).length ((xs.length : Int).toNat - n.toNat) : Nat) : Int)) ∧ IntKind.wrap .i64 (n + ((min (pre' xs n).length ((xs.length : Int).toNat - n.toNat) : Nat) : Int)) ≤ c ∧ (c - IntKind.wrap .i64 (n + ((min (pre' xs n).length ((xs.length : Int).toNat - n.toNat) : Nat) : Int))).toNat < (c - n).toNat := by
  have hp : ((pre' xs n).length : Int) = n := pre_len ⟨by omega, by omega⟩
  rw [wr64 (by omega), cpy_len (by rw [List.length_take]; omega)]
  omega
theorem rep_eq {c : Int} (hc : 1 ≤ c ∧ c ≤ 16) : Bg [-1] c = List.replicate c.toNat (-1) := by
  have hm : B1 (IntKind.wrap .u64 (([-1] : List Int).length : Int)) (IntKind.wrap .u64 c) = (0, c) := mul_rep rfl hc
  have hw : IntKind.wrap .i64 c = c := wr64 (by omega)
  simp only [Bg, hm, hw, List.length_replicate]
  have hfin := LOOP_post (b := Cl [-1] c) (k := fun x => x.1) (fun (x : List Int × Int) => x.1.length = c.toNat ∧ 1 ≤ x.2 ∧ x.2 ≤ c ∧ ∀ j : Int, 0 ≤ j → j < x.2 → at' x.1 j = -1) (fun x => (c - x.2).toNat) (fun _ r => r = List.replicate c.toNat (-1))
    (fun rec x hx ih => by
      obtain ⟨h1, h2, h3, h4⟩ := hx
      simp only [Cl]
      by_cases hi : x.2 < (x.1.length : Int)
      · simp only [hi, decide_true, Bool.cond_true]
        have hp : ((pre' x.1 x.2).length : Int) = x.2 := pre_len ⟨by omega, by omega⟩
        have hq : (min (pre' x.1 x.2).length ((x.1.length : Int).toNat - x.2.toNat)) ≤ (pre' x.1 x.2).length := Nat.min_le_left ..
        have hl : ((pre' x.1 x.2).take (min (pre' x.1 x.2).length ((x.1.length : Int).toNat - x.2.toNat))).length = min (pre' x.1 x.2).length ((x.1.length : Int).toNat - x.2.toNat) := by rw [List.length_take]; omega
        rw [wr64 (by omega)]
        refine ih _ ⟨?_, by dsimp only; omega, by dsimp only; omega, fun j hj0 hj => ?_⟩ (by dsimp only; omega)
        · show (cpy _ _ _).length = _
          rw [cpy_len (by rw [hl]; omega)]; exact h1
        · dsimp only at hj ⊢
          have hat : ∀ (a b : List Int) (j : Int), 0 ≤ j → j < a.length → at' (a ++ b) j = at' a j := fun a b j h0 h => by
            rw [at_getD, at_getD, List.getD_eq_getElem?_getD, List.getD_eq_getElem?_getD, List.getElem?_append_left (by omega)]
          have hat2 : ∀ (a b : List Int) (j : Int), (a.length : Int) ≤ j → at' (a ++ b) j = at' b (j - a.length) := fun a b j h => by
            rw [at_getD, at_getD, List.getD_eq_getElem?_getD, List.getD_eq_getElem?_getD, List.getElem?_append_right (by omega)]
            congr 2; omega
          have htk : ∀ (a : List Int) (q : Nat) (j : Int), 0 ≤ j → j < q → at' (a.take q) j = at' a j := fun a q j h0 h => by
            rw [at_getD, at_getD, List.getD_eq_getElem?_getD, List.getD_eq_getElem?_getD, List.getElem?_take, if_pos (by omega)]
          have ht : (x.1.take x.2.toNat).length = x.2.toNat := by rw [List.length_take]; omega
          simp only [cpy]
          rw [List.append_assoc]
          by_cases hjx : j < x.2
          · rw [hat _ _ _ hj0 (by omega), htk _ _ _ hj0 (by omega)]; exact h4 j hj0 hjx
          · rw [hat2 _ _ _ (by omega), hat _ _ _ (by omega) (by rw [hl]; omega), htk _ _ _ (by omega) (by omega)]
            simp only [pre']
            rw [htk _ _ _ (by omega) (by omega)]
            exact h4 _ (by omega) (by omega)
      · simp only [hi, decide_false, Bool.cond_false]
        refine list_ext_at (by simp [h1]) fun j hj0 hj => ?_
        rw [h4 j hj0 (by omega), at_rep hj0 (by omega)])
  refine hfin _ _ ⟨?_, ?_, ?_, ?_⟩ ?_
  · rw [cpy_len (by simp; omega)]; simp
  · simp; omega
  · simp; omega
  · intro j hj0 hj
    have : j = 0 := by simp at hj; omega
    subst this
    have e : min ([-1] : List Int).length c.toNat = 1 := by simp; omega
    simp only [cpy, e]
    rfl
  · simp; omega

/-! ## Rounds with a mark whether something has changed -/
section
variable {J : Int} {safe : Int → Int → Bool}
def rlxW (safe : Int → Int → Bool) (e : Int × Int × Int) (x : List Int × Bool) : List Int × Bool :=
  bif (decide (0 ≤ at' x.1 e.1) && (decide (at' x.1 e.2.1 < 0) || decide (IntKind.wrap .i64 (at' x.1 e.1 + e.2.2) < at' x.1 e.2.1))) && safe e.2.1 (IntKind.wrap .i64 (at' x.1 e.1 + e.2.2)) then (put' x.1 e.2.1 (IntKind.wrap .i64 (at' x.1 e.1 + e.2.2)), true) else x
def swpW (safe : Int → Int → Bool) (es : List (Int × Int × Int)) (x : List Int × Bool) : List Int × Bool := es.foldl (fun x e => rlxW safe e x) x
/-- an edge between two of J places, with a time that is not great -/
def EdW (J : Int) (e : Int × Int × Int) : Prop := (0 ≤ e.1 ∧ e.1 < J) ∧ (0 ≤ e.2.1 ∧ e.2.1 < J) ∧ 0 ≤ e.2.2 ∧ e.2.2 ≤ 1000000000
theorem rlxW_SmI (hJ : J ≤ 16) {e : Int × Int × Int} (he : EdW J e) {a0 : List Int} {x : List Int × Bool} (h : SmI J a0 x.1 x.2) :
    (rlxW safe e x).1 = rlx safe e x.1 ∧ SmI J a0 (rlxW safe e x).1 (rlxW safe e x).2 ∧ ((rlxW safe e x).2 = false → x.2 = false ∧ rlx safe e x.1 = x.1) := by
  obtain ⟨hu, hv, hw⟩ := he
  by_cases h0 : 0 ≤ at' x.1 e.1
  · have hwr : IntKind.wrap .i64 (at' x.1 e.1 + e.2.2) = at' x.1 e.1 + e.2.2 := by have := h.1.hi hJ hu.1 hu.2; exact wr64 (by omega)
    simp only [rlxW, rlx, hwr]
    by_cases hc : (at' x.1 e.2.1 < 0 ∨ at' x.1 e.1 + e.2.2 < at' x.1 e.2.1) ∧ safe e.2.1 (at' x.1 e.1 + e.2.2) = true
    · have hb : ((decide (0 ≤ at' x.1 e.1) && (decide (at' x.1 e.2.1 < 0) || decide (at' x.1 e.1 + e.2.2 < at' x.1 e.2.1))) && safe e.2.1 (at' x.1 e.1 + e.2.2)) = true := by
        simp only [Bool.and_eq_true, Bool.or_eq_true, decide_eq_true_eq]; exact ⟨⟨h0, hc.1⟩, hc.2⟩
      rw [hb]
      exact ⟨rfl, h.put hJ hu hv h0 hw hc.1, fun h => by simp at h⟩
    · have hb : ((decide (0 ≤ at' x.1 e.1) && (decide (at' x.1 e.2.1 < 0) || decide (at' x.1 e.1 + e.2.2 < at' x.1 e.2.1))) && safe e.2.1 (at' x.1 e.1 + e.2.2)) = false := by
        rw [← Bool.not_eq_true]
        simp only [Bool.and_eq_true, Bool.or_eq_true, decide_eq_true_eq]
        rintro ⟨⟨_, h1⟩, h2⟩; exact hc ⟨h1, h2⟩
      rw [hb]
      exact ⟨rfl, h, fun h => ⟨h, rfl⟩⟩
  · have hb : decide (0 ≤ at' x.1 e.1) = false := by simpa using h0
    simp only [rlxW, rlx, hb, Bool.false_and, Bool.cond_false]
    exact ⟨trivial, h, fun h => ⟨h, trivial⟩⟩
theorem swpW_SmI (hJ : J ≤ 16) : ∀ {es : List (Int × Int × Int)} {a0 : List Int} {x : List Int × Bool}, (∀ e ∈ es, EdW J e) → SmI J a0 x.1 x.2 →
    (swpW safe es x).1 = swp safe es x.1 ∧ SmI J a0 (swpW safe es x).1 (swpW safe es x).2 ∧ ((swpW safe es x).2 = false → x.2 = false ∧ Fixd safe es x.1)
  | [], _, x, _, h => ⟨rfl, h, fun hf => ⟨hf, fun e he => by simp at he⟩⟩
  | e :: es, a0, x, hok, h => by
    obtain ⟨h1, h2, h3⟩ := rlxW_SmI (safe := safe) hJ (hok e List.mem_cons_self) h
    obtain ⟨h4, h5, h6⟩ := swpW_SmI hJ (es := es) (x := rlxW safe e x) (fun e' h' => hok e' (List.mem_cons_of_mem _ h')) h2
    refine ⟨?_, h5, fun hf => ?_⟩
    · show (swpW safe es (rlxW safe e x)).1 = swp safe es (rlx safe e x.1)
      rw [h4, h1]
    · obtain ⟨h7, h8⟩ := h6 hf
      obtain ⟨h9, h10⟩ := h3 h7
      rw [h1, h10] at h8
      refine ⟨h9, fun e' he' => ?_⟩
      rcases List.mem_cons.1 he' with e0 | he'
      · subst e0; exact h10
      · exact h8 e' he'
/-- round and round till nothing changes -/
theorem LOOP_fix {ρ : Type} {b : (List Int × Bool → ρ) → (List Int × Bool → ρ) → List Int × Bool → ρ} {k : List Int × Bool → ρ} {es : List (Int × Int × Int)} {n : Nat} {a0 : List Int} (hJ : J ≤ 16) (hok : ∀ e ∈ es, EdW J e) (hS : SmB J a0) (hfix : Fixd safe es (swps safe es n a0))
    (hb : ∀ rec a, SmB J a → b rec k (a, true) = rec (swpW safe es (a, false))) (hb0 : ∀ rec a, b rec k (a, false) = k (a, false)) : LOOP b k 300000000000 (a0, true) = k (swps safe es n a0, false) := by
  have hpot := hS.pot hJ
  refine LOOP_is (fun (x : List Int × Bool) => SmB J x.1 ∧ (∃ r, x.1 = swps safe es r a0) ∧ (x.2 = false → Fixd safe es x.1)) (fun x => pot x.1 + (bif x.2 then 1 else 0)) (fun _ => k (swps safe es n a0, false)) ?_ (x := (a0, true)) ⟨hS, ⟨0, rfl⟩, fun h => by simp at h⟩ (by simp only [Bool.cond_true]; omega)
  rintro rec ⟨a, more⟩ ⟨ha, ⟨r, hr⟩, hx⟩ ih
  dsimp only at ha hr hx ih
  cases more with
  | false =>
    rw [hb0]
    have := hx rfl
    rw [hr] at this ⊢
    rw [fix_same this hfix]
  | true =>
    rw [hb _ _ ha]
    obtain ⟨g1, g2, g3⟩ := swpW_SmI (safe := safe) hJ (x := (a, false)) hok (SmI.refl ha)
    refine ih _ ⟨g2.1, ⟨r + 1, ?_⟩, fun hfl => ?_⟩ (g2.mu rfl)
    · rw [g1, hr, swps_add]; rfl
    · have hfx := (g3 hfl).2
      rw [g1, fix_swp hfx]; exact hfx
theorem swp_SmB (hJ : J ≤ 16) {es : List (Int × Int × Int)} {a : List Int} (hok : ∀ e ∈ es, EdW J e) (h : SmB J a) : SmB J (swp safe es a) := by
  obtain ⟨g1, g2, _⟩ := swpW_SmI (safe := safe) hJ (x := (a, false)) hok (SmI.refl h)
  rw [← g1]; exact g2.1
theorem swps_SmBw (hJ : J ≤ 16) {es : List (Int × Int × Int)} (hok : ∀ e ∈ es, EdW J e) : ∀ (k : Nat) {a : List Int}, SmB J a → SmB J (swps safe es k a)
  | 0, _, h => h
  | k + 1, _, h => swps_SmBw hJ hok k (swp_SmB hJ hok h)
theorem fori_swpsW {es : List (Int × Int × Int)} : ∀ (n : Nat) (i : Int) (a : List Int), fori (fun _ a => swp safe es a) n i a = swps safe es n a
  | 0, _, _ => rfl
  | n + 1, i, a => fori_swpsW n (i + 1) _
theorem EdW.ok {e : Int × Int × Int} (h : EdW J e) : EdOk J.toNat e := by
  unfold EdW at h; unfold EdOk; omega
end
theorem rep_append : ∀ (n : Nat) (i : Int), fori (fun _ xs => xs ++ [(-1 : Int)]) n i [] = List.replicate n (-1) := fun n i => by
  rw [fori_map (f := fun _ => (-1 : Int)), List.nil_append]
  apply List.ext_getElem?
  intro j
  by_cases hj : j < n
  · rw [List.getElem?_map, irange_get hj, List.getElem?_replicate, if_pos hj]; rfl
  · rw [List.getElem?_eq_none (by simp [irange_len]; omega), List.getElem?_eq_none (by simp; omega)]
theorem LOOP_foriF2 {ρ σ : Type} {n : Int} {b : (Int × σ → ρ) → (Int × σ → ρ) → Int × σ → ρ} {k : Int × σ → ρ} (I : Int → σ → Prop) (st : Int → σ → σ) (hb : ∀ rec s i, 0 ≤ i → i < n → I i s → b rec k (i, s) = rec (i + 1, st i s)) (hI : ∀ s i, 0 ≤ i → i < n → I i s → I (i + 1) (st i s)) (he : ∀ rec s, I n s → b rec k (n, s) = k (n, s)) :
    ∀ (f : Nat) (i : Int) (s : σ), 0 ≤ i → i ≤ n → (n - i).toNat < f → I i s → LOOP b k f (i, s) = k (n, fori st (n - i).toNat i s)
  | 0, _, _, _, _, h, _ => by omega
  | f + 1, i, s, h0, h1, h2, hi => by
    simp only [LOOP]
    by_cases h : i < n
    · rw [hb _ _ _ h0 h hi, LOOP_foriF2 I st hb hI he f (i + 1) _ (by omega) (by omega) (by omega) (hI _ _ h0 h hi)]
      rw [show (n - i).toNat = (n - (i + 1)).toNat + 1 by omega]; rfl
    · have : i = n := by omega
      subst this
      rw [he _ _ hi]; simp [fori]

end Go.Proofs.YtibbfdojcdkopaaGreat
