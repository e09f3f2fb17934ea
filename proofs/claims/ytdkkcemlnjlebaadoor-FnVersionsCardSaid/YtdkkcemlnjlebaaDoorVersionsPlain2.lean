/-
  PLAIN LAWS about the models: no program in sight. Conditions: as each theorem states them.
-/
import Derived.Test.YtdkkcemlnjlebaaDoorVersionsPlain1
set_option linter.unusedVariables false
set_option linter.unusedSimpArgs false
set_option linter.unusedSectionVars false
set_option linter.unnecessarySimpa false
namespace Go.Proofs.YtdkkcemlnjlebaaDoor
open Go Go.RowKit Go.Proofs Go.Proofs.YtdkkcemlnjlebaaDoor.E

theorem bytesLess_eq : ∀ (x y : List UInt8), Op.bytesLess x y = decide (x < y)
  | [], [] => by simp [Op.bytesLess]
  | _ :: _, [] => by simp [Op.bytesLess]
  | [], _ :: _ => by simp [Op.bytesLess]
  | a :: x, b :: y => by
    rw [Op.bytesLess, bytesLess_eq x y]
    simp only [List.cons_lt_cons_iff]
    by_cases h1 : a < b <;> by_cases h2 : a = b <;> by_cases h3 : x < y <;> simp [h1, h2, h3]

/-! ## Rising lists of texts -/
abbrev Txt := List UInt8
theorem lss_eq (a b : Txt) : strB .lss a b = decide (a < b) := bytesLess_eq a b
theorem geq_eq (a b : Txt) : strB .geq a b = !decide (a < b) := by show (!Op.bytesLess a b) = _; rw [bytesLess_eq]
theorem neq_iff {a b : Txt} : strB .neq a b = true ↔ a ≠ b := by simp [strB]
theorem lt_le {a b : Txt} (h : a < b) : a ≤ b := List.le_of_lt h
theorem lt_trans' {a b c : Txt} (h : a < b) (h2 : b < c) : a < c := List.lt_trans h h2
theorem lt_of_le_lt {a b c : Txt} (h : a ≤ b) (h2 : b < c) : a < c := List.lt_of_le_of_lt h h2
theorem lt_of_le_ne' {a b : Txt} (h : a ≤ b) (h2 : a ≠ b) : a < b := Std.lt_of_le_of_ne h h2
abbrev Rise (l : List Txt) : Prop := l.Pairwise (· < ·)
theorem rise_ext {s t : List Txt} (hs : Rise s) (ht : Rise t) (h : ∀ x, x ∈ s ↔ x ∈ t) : s = t := by
  have nd : ∀ {l : List Txt}, Rise l → l.Nodup := fun hl => hl.imp (fun hab e => by subst e; exact List.lt_irrefl _ hab)
  have hp : s.Perm t := (List.perm_ext_iff_of_nodup (nd hs) (nd ht)).2 h
  exact List.Perm.eq_of_pairwise (le := (· < ·)) (fun a b _ _ h1 h2 => absurd (List.lt_trans h1 h2) (List.lt_irrefl a)) hs ht hp
theorem sortS_up (l : List Txt) : (l.mergeSort fun x y => decide (x ≤ y)).Pairwise (· ≤ ·) := by
  have := List.pairwise_mergeSort (le := fun x y : Txt => decide (x ≤ y)) (fun a b c h1 h2 => by simp only [decide_eq_true_eq] at *; exact List.le_trans h1 h2) (fun a b => by simp only [Bool.or_eq_true, decide_eq_true_eq]; exact List.le_total a b) l
  exact this.imp (fun h => by simpa using h)
theorem arr_at {zs : List Txt} {j : Nat} (h : j < zs.length) : zs.toArray[j]! = zs[j] := by
  rw [getElem!_pos _ j (by simpa using h), List.getElem_toArray]

/-! ## Bounds -/
theorem l00In_imp {n l h : Int} (e : m_spec_l00In n l h = true) : l ≤ n ∧ n ≤ h := by
  simpa [m_spec_l00In] using e
theorem within_imp {n l h : Int} (e : m_impl_within n l h = true) : l ≤ n ∧ n ≤ h := by
  simpa [m_impl_within] using e

/-! ## How long the library's numerals are -/
theorem digits_len : ∀ (k u : Nat), u < 10 ^ (k + 1) → (Lib.decDigits u).length ≤ k + 1
  | 0, u, h => by rw [Lib.decDigits, dif_pos (by simpa using h)]; simp
  | k + 1, u, h => by
    rw [Lib.decDigits]
    split
    · simp
    · have := digits_len k (u / 10) (by rw [Nat.pow_succ] at h; omega)
      simp; omega
theorem itoa_len {n : Int} (hn : -9223372036854775808 ≤ n ∧ n ≤ 9223372036854775807) : (Lib.itoa n).length ≤ 20 := by
  unfold Lib.itoa
  split
  · have := digits_len 18 n.natAbs (by show n.natAbs < 10000000000000000000; omega)
    simp; omega
  · have := digits_len 18 n.toNat (by show n.toNat < 10000000000000000000; omega)
    omega

/-! ## Texts in order -/
theorem bytes_tri : ∀ (a b : List UInt8), (Op.bytesLess a b || a == b) = !Op.bytesLess b a
  | [], [] => rfl
  | [], _ :: _ => rfl
  | _ :: _, [] => rfl
  | x :: a, y :: b => by
    have ih := bytes_tri a b
    simp only [Op.bytesLess]
    by_cases h1 : x < y
    · have h2 : ¬ y < x := fun h => absurd (UInt8.lt_trans h1 h) (UInt8.lt_irrefl _)
      have h3 : ¬ (y == x) = true := fun h => by rw [beq_iff_eq] at h; subst h; exact h2 h1
      simp [h1, h2, h3]
    · by_cases h2 : y < x
      · have h3 : ¬ (x == y) = true := fun h => by rw [beq_iff_eq] at h; subst h; exact h1 h2
        have h4 : ¬ x = y := fun h => h3 (by simp [h])
        simp [h1, h2, h4]
      · have h3 : x = y := UInt8.le_antisymm (UInt8.not_lt.1 h2) (UInt8.not_lt.1 h1)
        subst h3
        simp only [h1, decide_false, Bool.false_or, beq_self_eq_true, Bool.true_and]
        rw [← ih]
        simp
theorem strleq_geq (a b : List UInt8) : strB .leq a b = strB .geq b a := bytes_tri a b

/-! ## Names: both models judge alike -/
theorem and_bif (p q : Bool) : (bif p then q else false) = (p && q) := by cases p <;> rfl
theorem name_eq (s : List UInt8) : m_impl_IsName s = m_spec_l01Name s := by
  rw [Bool.eq_iff_iff]
  have h1 := LOOP_all (b := m_impl_onlyNameBytes_b1 s) (n := s.length) (fun rec k i _ => rfl) (k := fun _ => true) ((s.length : Int) - 0 : Int).toNat.succ 0 (by omega) (by omega) (by omega)
  have h2 := LOOP_all (b := m_spec_l01Name_b1 s) (n := s.length) (fun rec k i _ => rfl) (k := fun _ => true) ((s.length : Int) - 0 : Int).toNat.succ 0 (by omega) (by omega) (by omega)
  simp only [m_impl_IsName, m_spec_l01Name, m_impl_onlyNameBytes]
  change (LOOP _ _ (((s.length : Int) - 0 : Int).toNat + 1) _ = true ↔ _) at h1
  change (LOOP _ _ (((s.length : Int) - 0 : Int).toNat + 1) _ = true ↔ _) at h2
  have hl : strB .eql s [] = decide ((s.length : Int) < 1) := by
    cases s <;> simp [strB]; omega
  rw [hl]
  generalize ((s.getD (0 : Int).toNat 0).toNat : Int) = c
  simp only [m_spec_l01Small]
  simp only [Bool.cond_eq_ite, Bool.or_eq_true, Bool.not_eq_true', Bool.and_eq_false_iff, decide_eq_true_eq, decide_eq_false_iff_not]
  have e : (∀ j : Nat, (0 : Int) ≤ j → j < s.length → ((decide ((((s.getD (j : Int).toNat 0).toNat : Nat) : Int) < 97) || decide (122 < (((s.getD (j : Int).toNat 0).toNat : Nat) : Int))) && (decide ((((s.getD (j : Int).toNat 0).toNat : Nat) : Int) < 48) || decide (57 < (((s.getD (j : Int).toNat 0).toNat : Nat) : Int)))) = false) ↔ (∀ j : Nat, (0 : Int) ≤ j → j < s.length → (!m_spec_l01Small (((s.getD (j : Int).toNat 0).toNat : Nat) : Int) && !m_spec_l01Digit (((s.getD (j : Int).toNat 0).toNat : Nat) : Int)) = false) := by
    refine forall_congr' fun j => forall_congr' fun _ => forall_congr' fun _ => ?_
    generalize (((s.getD (j : Int).toNat 0).toNat : Nat) : Int) = c
    simp only [m_spec_l01Small, m_spec_l01Digit, Bool.and_eq_false_iff, Bool.or_eq_false_iff, Bool.not_eq_false', Bool.and_eq_true, decide_eq_true_eq, decide_eq_false_iff_not]
    omega
  split <;> rename_i h1' <;> split <;> rename_i h2'
  · simp
  · exfalso; omega
  · exfalso; omega
  · rw [h1, h2, e]
theorem within_eq (n l h : Int) : m_impl_within n l h = m_spec_l00In n l h := rfl
theorem name_len {s : List UInt8} (h : m_spec_l01Name s = true) : s.length ≤ 10 := by
  simp only [m_spec_l01Name] at h
  cases hc : ((strB .eql s ([] : List UInt8)) || (decide (10 < (s.length : Int)))) with
  | true => rw [hc] at h; simp at h
  | false =>
    simp only [Bool.or_eq_false_iff, decide_eq_false_iff_not] at hc; omega

/-! ## Labels of what a closure holds -/
theorem labB_ro {C : List V} (h : C.all V.ro = true) : C.flatMap V.labB = [] := by
  rw [List.flatMap_eq_nil_iff]
  intro v hv
  have := List.all_eq_true.1 h v hv
  cases v <;> first | rfl | (simp [V.ro] at this)
theorem cpy_tail_len {α : Type} {xs : List α} {o : Nat} {z : α} : (cpy xs o (List.replicate ((xs.length : Int).toNat - o) z)).length = xs.length := by
  simp only [cpy, List.length_append, List.length_take, List.length_drop, List.length_replicate, Int.toNat_natCast]; omega
theorem pre_len2 {α : Type} {xs : List α} {b : Int} : (pre' xs b).length = min b.toNat xs.length := by unfold pre'; rw [List.length_take]

/-! ## What the draws read -/
theorem wru64 {n : Int} (h : 0 ≤ n ∧ n ≤ 255) : IntKind.wrap .u64 n = n := by
  have : IntKind.wrap .u64 n = n % 18446744073709551616 := by rfl
  rw [this]; omega
def Lim (s : gl00Src) (n : Int) : Prop := (∀ y ∈ s.code, 0 ≤ y ∧ y ≤ 255) ∧ (n ≤ 1000000000000 → 0 ≤ s.at_ ∧ s.at_ ≤ n)
theorem Lim.mono {s : gl00Src} {n m : Int} (h : Lim s n) (hm : n ≤ m) : Lim s m := ⟨h.1, fun h1 => by have := h.2 (by omega); omega⟩
def LimA (c : List Int) (a : Int) (n : Int) : Prop := (∀ y ∈ c, 0 ≤ y ∧ y ≤ 255) ∧ (n ≤ 1000000000000 → 0 ≤ a ∧ a ≤ n)
theorem Lim.mk {c : List Int} {a b n : Int} (h : LimA c a n) : Lim (gl00Src.mk c a b) n := h
theorem Lim.out {s : gl00Src} {n m : Int} (h : Lim s n) (hm : n ≤ m) : LimA s.code s.at_ m := h.mono hm
theorem LimA.mono {c : List Int} {a n m : Int} (h : LimA c a n) (hm : n ≤ m) : LimA c a m := ⟨h.1, fun h1 => by have := h.2 (by omega); omega⟩
theorem Lim.from {code : List Int} (h : ∀ y ∈ code, 0 ≤ y ∧ y ≤ 255) : Lim (m_spec_l00From code) 0 := ⟨h, fun _ => by simp [m_spec_l00From]⟩
theorem Lim.next {s : gl00Src} {n : Int} (h : Lim s n) : Lim (m_spec_l00Src_next s).2 (n + 1) := by
  simp only [m_spec_l00Src_next, JN]
  have key : ∀ k : Int, Lim (gl00Src.mk s.code (IntKind.wrap .i64 (s.at_ + 1)) k) (n + 1) := fun k => by
    refine ⟨h.1, fun h1 => ?_⟩
    have := h.2 (by omega)
    rw [wr64 (by omega)]
    simp only; omega
  cases decide (s.at_ < (s.code.length : Int)) <;> cases decide ((IntKind.wrap .i64 (s.at_ + 1)) ≤ (s.code.length : Int)) <;> exact key _
theorem code_at {c : List Int} (h : ∀ y ∈ c, 0 ≤ y ∧ y ≤ 255) (i : Int) : 0 ≤ at' c i ∧ at' c i ≤ 255 := by
  by_cases hi : i.toNat < c.length
  · have : at' c i = c[i.toNat] := by simp [at', List.getD_eq_getElem?_getD, hi]
    rw [this]; exact h _ (List.getElem_mem hi)
  · have : at' c i = 0 := by
      simp only [at', List.getD_eq_getElem?_getD]
      rw [List.getElem?_eq_none (by omega)]; rfl
    omega
theorem Lim.byte {s : gl00Src} {n : Int} (h : Lim s n) : 0 ≤ (m_spec_l00Src_next s).1 ∧ (m_spec_l00Src_next s).1 ≤ 255 := by
  simp only [m_spec_l00Src_next, JN]
  have h0 := code_at h.1 s.at_
  have k1 : 0 ≤ IntKind.wrap .i64 (at' s.code s.at_) ∧ IntKind.wrap .i64 (at' s.code s.at_) ≤ 255 := by rw [wr64 (by omega)]; exact h0
  have k2 : ∀ b : BitVec (IntKind.bits .u64), 0 ≤ IntKind.wrap .i64 (IntKind.wrap .u64 (((b &&& (BitVec.ofInt (IntKind.bits .u64) 255)).toNat : Nat) : Int)) ∧ IntKind.wrap .i64 (IntKind.wrap .u64 (((b &&& (BitVec.ofInt (IntKind.bits .u64) 255)).toNat : Nat) : Int)) ≤ 255 := fun b => by
    have hb : (b &&& (BitVec.ofInt (IntKind.bits .u64) 255)).toNat ≤ 255 := by
      rw [BitVec.toNat_and]
      exact Nat.le_trans Nat.and_le_right (by decide)
    have e : IntKind.wrap .u64 (((b &&& (BitVec.ofInt (IntKind.bits .u64) 255)).toNat : Nat) : Int) = (((b &&& (BitVec.ofInt (IntKind.bits .u64) 255)).toNat : Nat) : Int) := by
      exact wru64 (by omega)
    rw [e, wr64 (by omega)]
    omega
  cases decide (s.at_ < (s.code.length : Int)) <;> cases decide ((IntKind.wrap .i64 (s.at_ + 1)) ≤ (s.code.length : Int)) <;> simp only [Bool.cond_true, Bool.cond_false] <;> first | exact k1 | exact k2 _ | omega
theorem Lim.pick {s : gl00Src} {n k : Int} (h : Lim s n) : Lim (m_spec_l00Src_pick s k).2 (n + 2) := by
  simp only [m_spec_l00Src_pick]
  cases decide (k ≤ 1)
  · cases decide (200 < k)
    · exact h.next.mono (by omega)
    · exact h.next.next.mono (by omega)
  · exact h.mono (by omega)
theorem Lim.num {s : gl00Src} {n k : Int} (h : Lim s n) : 0 ≤ (m_spec_l00Src_pick s k).1 ∧ (1 ≤ k → (m_spec_l00Src_pick s k).1 < k) := by
  have h1 := h.byte
  have h2 := h.next.byte
  simp only [m_spec_l00Src_pick]
  by_cases hk : k ≤ 1
  · simp only [hk, decide_true, Bool.cond_true]; exact ⟨by omega, fun _ => by omega⟩
  · simp only [hk, decide_false, Bool.cond_false]
    have hm : ∀ v : Int, 0 ≤ v → 0 ≤ Int.tmod v k ∧ (1 ≤ k → Int.tmod v k < k) := fun v hv => by
      rw [Int.tmod_eq_emod_of_nonneg hv]
      exact ⟨Int.emod_nonneg _ (by omega), fun _ => Int.emod_lt_of_pos _ (by omega)⟩
    by_cases h200 : 200 < k
    · simp only [h200, decide_true, Bool.cond_true]
      refine hm _ ?_
      rw [wr64 (n := (m_spec_l00Src_next s).1 * 256) (by omega), wr64 (by omega)]; omega
    · simp only [h200, decide_false, Bool.cond_false]
      exact hm _ h1.1
theorem Lim.one {s : gl00Src} {n k : Int} (h : Lim s n) : Lim (m_spec_l00Src_one s k).2 (n + 2) := h.pick
theorem Lim.bif1 {s : gl00Src} {n k : Int} {c : Bool} (h : Lim s n) : Lim (bif c then (m_spec_l00Src_one s k).2 else s) (n + 2) := by
  cases c
  · exact h.mono (by omega)
  · exact h.one
theorem chars_len {xs : List Int} : (chars xs).length = xs.length := by simp [chars]

/-! ## Names of states: putting a setting in its place -/
abbrev nms (l : List gSetting) : List Txt := l.map (·.Name)
theorem set_is {L : List gSetting} (hL : Rise (nms L)) (e : gSetting) : Rise (nms (m_spec_l27Set L e)) ∧ ∀ z, z ∈ nms (m_spec_l27Set L e) ↔ z ∈ nms L ∨ z = e.Name := by
  simp only [m_spec_l27Set]
  refine LOOP_post (fun (x : List gSetting × Bool × Int) => (0 ≤ x.2.2 ∧ x.2.2 ≤ L.length) ∧ Rise (nms x.1) ∧ (∀ z, z ∈ nms x.1 ↔ z ∈ nms (L.take x.2.2.toNat) ∨ (x.2.1 = true ∧ z = e.Name)) ∧ (x.2.1 = false → ∀ z ∈ nms (L.take x.2.2.toNat), z < e.Name) ∧ (x.2.1 = true → ∀ j (hj : j < L.length), x.2.2.toNat ≤ j → e.Name < L[j].Name))
    (fun x => ((L.length : Int) - x.2.2).toNat) (fun _ (r : List gSetting) => Rise (nms r) ∧ ∀ z, z ∈ nms r ↔ z ∈ nms L ∨ z = e.Name) (fun rec x hI ih => ?_) _ _ ⟨⟨by simp, by simp⟩, List.Pairwise.nil, by simp [nms], by simp [nms], by simp⟩ (by simp)
  obtain ⟨out, done, i⟩ := x
  obtain ⟨⟨h0, h1⟩, hA, hB, hC, hD⟩ := hI
  simp only at h0 h1 hA hB hC hD
  simp only [m_spec_l27Set_b1, JN]
  have hget : ∀ j k (hj : j < L.length) (hk : k < L.length), j < k → L[j].Name < L[k].Name := fun j k hj hk hjk => by
    have := List.pairwise_iff_getElem.1 hL j k (by simpa [nms] using hj) (by simpa [nms] using hk) hjk
    simpa [nms] using this
  have hsnoc : ∀ (l : List gSetting) (q : gSetting), Rise (nms l) → (∀ z ∈ nms l, z < q.Name) → Rise (nms (l ++ [q])) := fun l q h1 h2 => by
    simp only [nms, List.map_append, List.map_cons, List.map_nil, Rise]
    rw [List.pairwise_append]
    exact ⟨h1, List.pairwise_singleton _ _, fun z hz y hy => by rw [List.mem_singleton] at hy; rw [hy]; exact h2 z hz⟩
  have hmem : ∀ (l : List gSetting) (q : gSetting) z, z ∈ nms (l ++ [q]) ↔ z ∈ nms l ∨ z = q.Name := fun l q z => by
    simp only [nms, List.map_append, List.map_cons, List.map_nil, List.mem_append, List.mem_singleton]
  by_cases hi : i < (L.length : Int)
  · have hlt : i.toNat < L.length := by omega
    have hat : at' L i = L[i.toNat] := by
      have := at_lt (xs := L) (j := i.toNat) hlt
      rwa [Int.toNat_of_nonneg h0] at this
    have et : (i + 1).toNat = i.toNat + 1 := by omega
    have htk : L.take (i + 1).toNat = L.take i.toNat ++ [at' L i] := by rw [et, List.take_succ_eq_append_getElem hlt, hat]
    have hup : ∀ z ∈ nms (L.take i.toNat), z < (at' L i).Name := by
      intro z hz
      obtain ⟨q, hq, rfl⟩ := List.mem_map.1 hz
      obtain ⟨j, hj, rfl⟩ := List.getElem_of_mem hq
      rw [List.length_take] at hj
      rw [List.getElem_take, hat]
      exact hget j i.toNat (by omega) hlt (by omega)
    have hnx : ∀ j (hj : j < L.length), i.toNat + 1 ≤ j → (at' L i).Name < L[j].Name := fun j hj hij => by
      rw [hat]; exact hget i.toNat j hlt hj (by omega)
    simp only [hi, decide_true, Bool.cond_true]
    cases hd : done with
    | true =>
      subst hd
      have hlt' : e.Name < (at' L i).Name := by rw [hat]; exact hD rfl i.toNat hlt (Nat.le_refl _)
      have hne : strB .neq (at' L i).Name e.Name = true := neq_iff.2 (fun h => by rw [h] at hlt'; exact List.lt_irrefl _ hlt')
      simp only [Bool.not_true, Bool.false_and, Bool.cond_false, hne, Bool.cond_true]
      refine ih _ ⟨⟨by simp only; omega, by simp only; omega⟩, hsnoc _ _ hA (fun z hz => ?_), fun z => ?_, by simp, ?_⟩ (by simp only; omega)
      · rcases (hB z).1 hz with h | ⟨_, rfl⟩
        · exact hup z h
        · exact hlt'
      · simp only [htk]
        rw [hmem, hmem, hB z]
        constructor
        · rintro ((h | h) | h)
          · exact .inl (.inl h)
          · exact .inr ⟨by trivial, h.2⟩
          · exact .inl (.inr h)
        · rintro ((h | h) | h)
          · exact .inl (.inl h)
          · exact .inr h
          · exact .inl (.inr ⟨rfl, h.2⟩)
      · intro _ j hj hij
        simp only [et] at hij
        exact hD rfl j hj (by omega)
    | false =>
      subst hd
      have hCf := hC rfl
      have hBf : ∀ z, z ∈ nms out → z ∈ nms (L.take i.toNat) := fun z hz => by
        rcases (hB z).1 hz with h | ⟨h, _⟩
        · exact h
        · simp at h
      by_cases hlt' : (at' L i).Name < e.Name
      · have hg : strB .geq (at' L i).Name e.Name = false := by rw [geq_eq]; simp [hlt']
        have hne : strB .neq (at' L i).Name e.Name = true := neq_iff.2 (fun h => by rw [h] at hlt'; exact List.lt_irrefl _ hlt')
        simp only [hg, Bool.and_false, Bool.cond_false, hne, Bool.cond_true]
        refine ih _ ⟨⟨by simp only; omega, by simp only; omega⟩, hsnoc _ _ hA (fun z hz => hup z (hBf z hz)), fun z => ?_, ?_, by simp⟩ (by simp only; omega)
        · simp only [htk]
          rw [hmem, hmem, hB z]; simp
        · intro _ z hz
          simp only [htk] at hz
          rw [hmem] at hz
          rcases hz with h | rfl
          · exact hCf z h
          · exact hlt'
      · have hle : e.Name ≤ (at' L i).Name := List.not_lt.1 hlt'
        have hg : strB .geq (at' L i).Name e.Name = true := by rw [geq_eq]; simp [hlt']
        have hS1 : Rise (nms (out ++ [e])) := hsnoc _ _ hA (fun z hz => hCf z (hBf z hz))
        have hDn : ∀ j (hj : j < L.length), (i + 1).toNat ≤ j → e.Name < L[j].Name := fun j hj hij => lt_of_le_lt hle (hnx j hj (by omega))
        simp only [hg, Bool.not_false, Bool.true_and, Bool.cond_true]
        by_cases he : (at' L i).Name = e.Name
        · have hne : strB .neq (at' L i).Name e.Name = false := by
            cases hq : strB .neq (at' L i).Name e.Name with
            | false => rfl
            | true => exact absurd he (neq_iff.1 hq)
          simp only [hne, Bool.cond_false]
          refine ih _ ⟨⟨by simp only; omega, by simp only; omega⟩, hS1, fun z => ?_, by simp, fun _ => hDn⟩ (by simp only; omega)
          simp only [htk]
          rw [hmem, hmem, hB z, he]; simp
        · simp only [neq_iff.2 he, Bool.cond_true]
          refine ih _ ⟨⟨by simp only; omega, by simp only; omega⟩, hsnoc _ _ hS1 (fun z hz => ?_), fun z => ?_, by simp, fun _ => hDn⟩ (by simp only; omega)
          · rw [hmem] at hz
            rcases hz with hz | rfl
            · exact hup z (hBf z hz)
            · exact lt_of_le_ne' hle (fun h => he h.symm)
          · simp only [htk]
            rw [hmem, hmem, hmem, hB z]
            constructor
            · rintro ((h | h) | h)
              · rcases h with h | h
                · exact .inl (.inl h)
                · simp at h
              · exact .inr ⟨by trivial, h⟩
              · exact .inl (.inr h)
            · rintro ((h | h) | h)
              · exact .inl (.inl (.inl h))
              · exact .inr h
              · exact .inl (.inr h.2)
  · have he : i = L.length := by omega
    subst he
    simp only [hi, decide_false, Bool.cond_false]
    rw [Int.toNat_natCast, List.take_length] at hB hC
    cases hd : done with
    | true =>
      subst hd
      simp only [Bool.not_true, Bool.cond_false]
      exact ⟨hA, fun z => by rw [hB z]; simp⟩
    | false =>
      subst hd
      simp only [Bool.not_false, Bool.cond_true]
      refine ⟨hsnoc _ _ hA (fun z hz => ?_), fun z => by rw [hmem, hB z]; simp⟩
      rcases (hB z).1 hz with h | ⟨h, _⟩
      · exact hC rfl z h
      · simp at h

/-! ## Names and values of states: the program alone -/
theorem app_loop {σ : Type} [Inhabited σ] {x3 : List σ} {g : σ → Txt} {acc : List Txt} {ρ : Type} {b : ((List Txt) × Int → ρ) → ((List Txt) × Int → ρ) → (List Txt) × Int → ρ} {k : (List Txt) × Int → ρ} (hb : ∀ rec x, b rec k x = bif decide (x.2 < (x3.length : Int)) then rec (x.1 ++ ([g (at' x3 x.2)] : List Txt), x.2 + 1) else k (x.1, x.2)) :
    LOOP b k (((x3.length : Int) - 0 : Int).toNat + 1) (acc, 0) = k (acc ++ x3.map g, (x3.length : Int)) := by
  refine LOOP_is (fun (x : List Txt × Int) => (0 ≤ x.2 ∧ x.2 ≤ x3.length) ∧ x.1 = acc ++ (x3.take x.2.toNat).map g) (fun x => ((x3.length : Int) - x.2).toNat) (fun _ => k (acc ++ x3.map g, (x3.length : Int))) (fun rec x hI ih => ?_) ⟨⟨by simp, by simp⟩, by simp⟩ (by simp)
  obtain ⟨s, i⟩ := x
  obtain ⟨⟨h0, h1⟩, hA⟩ := hI
  simp only at h0 h1 hA
  rw [hb]
  simp only
  by_cases hi : i < (x3.length : Int)
  · have hlt : i.toNat < x3.length := by omega
    have hat : at' x3 i = x3[i.toNat] := by
      have := at_lt (xs := x3) (j := i.toNat) hlt
      rwa [Int.toNat_of_nonneg h0] at this
    simp only [hi, decide_true, Bool.cond_true]
    refine ih _ ⟨⟨by simp only; omega, by simp only; omega⟩, ?_⟩ (by simp only; omega)
    simp only
    rw [show (i + 1).toNat = i.toNat + 1 by omega, List.take_succ_eq_append_getElem hlt, List.map_append, hA, hat]; simp
  · have he : i = x3.length := by omega
    subst he
    simp only [hi, decide_false, Bool.cond_false]
    rw [Int.toNat_natCast, List.take_length] at hA
    rw [hA]
theorem eql_iff {a b : Txt} : strB .eql a b = true ↔ a = b := by simp [strB]
def firstAt (list : List gSetting) (name : Txt) (j : Int) : Prop := (0 ≤ j ∧ j < list.length) ∧ (at' list j).Name = name ∧ ∀ q, 0 ≤ q → q < j → (at' list q).Name ≠ name
def noneAt (list : List gSetting) (name : Txt) : Prop := ∀ q, 0 ≤ q → q < (list.length : Int) → (at' list q).Name ≠ name
theorem at_is (list : List gSetting) (name : Txt) : (m_spec_l27At list name = -1 ∧ noneAt list name) ∨ firstAt list name (m_spec_l27At list name) := by
  simp only [m_spec_l27At]
  refine LOOP_post (fun (x : Int) => (0 ≤ x ∧ x ≤ list.length) ∧ ∀ q, 0 ≤ q → q < x → (at' list q).Name ≠ name) (fun x => ((list.length : Int) - x).toNat) (fun _ (r : Int) => (r = -1 ∧ noneAt list name) ∨ firstAt list name r) (fun rec x hI ih => ?_) _ _ ⟨⟨by omega, by omega⟩, fun q h1 h2 => by omega⟩ (by omega)
  obtain ⟨⟨h0, h1⟩, h2⟩ := hI
  simp only [m_spec_l27At_b1]
  by_cases hi : x < (list.length : Int)
  · simp only [hi, decide_true, Bool.cond_true]
    cases hq : strB .eql (at' list x).Name name with
    | true => exact .inr ⟨⟨h0, hi⟩, eql_iff.1 hq, h2⟩
    | false =>
      refine ih _ ⟨⟨by omega, by omega⟩, fun q g1 g2 => ?_⟩ (by omega)
      by_cases hqx : q = x
      · subst hqx; intro e; rw [eql_iff.2 e] at hq; simp at hq
      · exact h2 q g1 (by omega)
  · simp only [hi, decide_false, Bool.cond_false]
    exact .inl ⟨by first | rfl | trivial, fun q g1 g2 => h2 q g1 (by omega)⟩
theorem value_is (list : List gSetting) (name : Txt) : (m_impl_valueAt list name = (0, false) ∧ noneAt list name) ∨ ∃ j, firstAt list name j ∧ m_impl_valueAt list name = ((at' list j).Value, true) := by
  simp only [m_impl_valueAt]
  refine LOOP_post (fun (x : Int) => (0 ≤ x ∧ x ≤ list.length) ∧ ∀ q, 0 ≤ q → q < x → (at' list q).Name ≠ name) (fun x => ((list.length : Int) - x).toNat) (fun _ (r : Int × Bool) => (r = (0, false) ∧ noneAt list name) ∨ ∃ j, firstAt list name j ∧ r = ((at' list j).Value, true)) (fun rec x hI ih => ?_) _ _ ⟨⟨by omega, by omega⟩, fun q h1 h2 => by omega⟩ (by omega)
  obtain ⟨⟨h0, h1⟩, h2⟩ := hI
  simp only [m_impl_valueAt_b1]
  by_cases hi : x < (list.length : Int)
  · simp only [hi, decide_true, Bool.cond_true]
    cases hq : strB .eql (at' list x).Name name with
    | true => exact .inr ⟨x, ⟨⟨h0, hi⟩, eql_iff.1 hq, h2⟩, rfl⟩
    | false =>
      refine ih _ ⟨⟨by omega, by omega⟩, fun q g1 g2 => ?_⟩ (by omega)
      by_cases hqx : q = x
      · subst hqx; intro e; rw [eql_iff.2 e] at hq; simp at hq
      · exact h2 q g1 (by omega)
  · simp only [hi, decide_false, Bool.cond_false]
    exact .inl ⟨by first | rfl | trivial, fun q g1 g2 => h2 q g1 (by omega)⟩

theorem setting_eq (e : gSetting) : m_impl_Setting_valid e = m_spec_l27Setting e := by
  simp only [m_impl_Setting_valid, m_spec_l27Setting, name_eq]; rfl
theorem state_all (list : List gSetting) : m_spec_l27State list = true ↔ (∀ j : Nat, (0 : Int) ≤ j → j < list.length → ((!(m_spec_l27Setting (at' list j))) || ((decide ((0 : Int) < j)) && (strB .geq (at' list ((j : Int) - 1)).Name (at' list j).Name))) = false) ∧ list.length ≤ 24 := by
  have h2 := LOOP_all (b := m_spec_l27State_b1 list) (n := list.length) (fun rec k i _ => rfl) (k := fun _ => decide ((list.length : Int) ≤ 24)) (((list.length : Int) - 0 : Int).toNat + 1) 0 (by omega) (by omega) (by omega)
  simp only [m_spec_l27State]
  rw [h2]
  simp only [decide_eq_true_eq]
  constructor
  · rintro ⟨a, b⟩; exact ⟨a, by omega⟩
  · rintro ⟨a, b⟩; exact ⟨a, by omega⟩
theorem state_eq (list : List gSetting) : m_impl_ValidState list = m_spec_l27State list := by
  rw [Bool.eq_iff_iff, state_all]
  have h1 := LOOP_all (b := m_impl_ValidState_b1 list) (n := list.length) (fun rec k i _ => rfl) (k := fun _ => true) (((list.length : Int) - 0 : Int).toNat + 1) 0 (by omega) (by omega) (by omega)
  simp only [m_impl_ValidState]
  by_cases hl : 24 < (list.length : Int)
  · simp only [hl, decide_true, Bool.cond_true]
    constructor
    · intro h; exact absurd h (by simp)
    · rintro ⟨_, h⟩; omega
  · simp only [hl, decide_false, Bool.cond_false]
    rw [h1]
    simp only [setting_eq, strleq_geq, and_true]
    constructor
    · intro h; exact ⟨h, by omega⟩
    · rintro ⟨h, _⟩; exact h
def StIn (list : List gSetting) : Prop := list.length ≤ 24 ∧ ∀ y ∈ list, y.Name.length ≤ 10 ∧ 0 ≤ y.Value ∧ y.Value ≤ 1000
theorem state_in {list : List gSetting} (h : m_spec_l27State list = true) : StIn list := by
  have h1 := (state_all list).1 h
  refine ⟨h1.2, all_at.2 fun j hj => ?_⟩
  have h2 := h1.1 j (by omega) hj
  simp only [Bool.or_eq_false_iff, Bool.not_eq_false'] at h2
  have h3 := h2.1
  simp only [m_spec_l27Setting, Bool.and_eq_true] at h3
  have h4 := l00In_imp h3.2
  exact ⟨name_len h3.1, h4.1, h4.2⟩
theorem state_inI {list : List gSetting} (h : m_impl_ValidState list = true) : StIn list := state_in (by rw [← state_eq]; exact h)

theorem set_le (L : List gSetting) (e : gSetting) : ((m_spec_l27Set L e).length : Int) ≤ L.length + 1 := by
  simp only [m_spec_l27Set]
  refine LOOP_post (fun (x : List gSetting × Bool × Int) => (0 ≤ x.2.2 ∧ x.2.2 ≤ L.length) ∧ (x.1.length : Int) ≤ x.2.2 + (if x.2.1 = true then 1 else 0)) (fun x => ((L.length : Int) - x.2.2).toNat) (fun _ (r : List gSetting) => (r.length : Int) ≤ L.length + 1) (fun rec x hI ih => ?_) _ _ ⟨⟨by simp, by simp⟩, by simp⟩ (by simp)
  obtain ⟨out, done, i⟩ := x
  obtain ⟨⟨h0, h1⟩, hA⟩ := hI
  simp only at h0 h1 hA
  simp only [m_spec_l27Set_b1, JN]
  by_cases hi : i < (L.length : Int)
  · simp only [hi, decide_true, Bool.cond_true]
    cases done with
    | true =>
      simp only [if_true] at hA
      simp only [Bool.not_true, Bool.false_and, Bool.cond_false]
      cases strB .neq (at' L i).Name e.Name with
      | true => exact ih _ ⟨⟨by simp only; omega, by simp only; omega⟩, by simp; omega⟩ (by simp only; omega)
      | false => exact ih _ ⟨⟨by simp only; omega, by simp only; omega⟩, by simp; omega⟩ (by simp only; omega)
    | false =>
      simp at hA
      cases strB .geq (at' L i).Name e.Name with
      | true =>
        simp only [Bool.not_false, Bool.true_and, Bool.cond_true]
        cases strB .neq (at' L i).Name e.Name with
        | true => exact ih _ ⟨⟨by simp only; omega, by simp only; omega⟩, by simp; omega⟩ (by simp only; omega)
        | false => exact ih _ ⟨⟨by simp only; omega, by simp only; omega⟩, by simp; omega⟩ (by simp only; omega)
      | false =>
        simp only [Bool.and_false, Bool.cond_false]
        cases strB .neq (at' L i).Name e.Name with
        | true => exact ih _ ⟨⟨by simp only; omega, by simp only; omega⟩, by simp; omega⟩ (by simp only; omega)
        | false => exact ih _ ⟨⟨by simp only; omega, by simp only; omega⟩, by simp; omega⟩ (by simp only; omega)
  · simp only [hi, decide_false, Bool.cond_false]
    cases done with
    | true => simp only [if_true] at hA; simp only [Bool.not_true, Bool.cond_false]; omega
    | false => simp at hA; simp only [Bool.not_false, Bool.cond_true, List.length_append, List.length_cons, List.length_nil]; omega
theorem at_rng {list : List gSetting} {name : Txt} (h : 0 ≤ m_spec_l27At list name) : 0 ≤ m_spec_l27At list name ∧ m_spec_l27At list name < list.length := by
  rcases at_is list name with ⟨h1, _⟩ | h1
  · omega
  · exact h1.1
theorem state_l24 {list : List gSetting} (h : m_spec_l27State list = true) : list.length ≤ 24 := (state_in h).1
theorem state_l24I {list : List gSetting} (h : m_impl_ValidState list = true) : list.length ≤ 24 := state_l24 (by rw [← state_eq]; exact h)
theorem muts_len {s : S} {full : Bool} {M : List (Nat × Nat)} {l L m m' : Nat} (h : E.look M l = some L) (e : m' = m) : PassB s full M (.os l m') (.os L m) [] := by subst e; exact .muts h

/-! ## States as sets of settings: what a merge is -/
theorem name_one {L : List gSetting} (hL : Rise (nms L)) {x y : gSetting} (hx : x ∈ L) (hy : y ∈ L) (e : x.Name = y.Name) : x = y := by
  obtain ⟨i, hi, rfl⟩ := List.getElem_of_mem hx
  obtain ⟨j, hj, rfl⟩ := List.getElem_of_mem hy
  have hget : ∀ j k (hj : j < L.length) (hk : k < L.length), j < k → L[j].Name < L[k].Name := fun j k hj hk hjk => by
    have := List.pairwise_iff_getElem.1 hL j k (by simpa [nms] using hj) (by simpa [nms] using hk) hjk
    simpa [nms] using this
  rcases Nat.lt_trichotomy i j with h | h | h
  · have := hget i j hi hj h; rw [e] at this; exact absurd this (List.lt_irrefl _)
  · subst h; rfl
  · have := hget j i hj hi h; rw [e] at this; exact absurd this (List.lt_irrefl _)
theorem state_ext {A B : List gSetting} (hA : Rise (nms A)) (hB : Rise (nms B)) (h : ∀ e, e ∈ A ↔ e ∈ B) : A = B := by
  have hn : nms A = nms B := rise_ext hA hB fun x => by
    simp only [nms, List.mem_map]
    constructor
    · rintro ⟨e, he, rfl⟩; exact ⟨e, (h e).1 he, rfl⟩
    · rintro ⟨e, he, rfl⟩; exact ⟨e, (h e).2 he, rfl⟩
  have hl : A.length = B.length := by have := congrArg List.length hn; simpa [nms] using this
  refine List.ext_getElem hl fun i h1 h2 => ?_
  have e1 : A[i].Name = B[i].Name := by
    have := congrArg (fun l => l[i]?) hn
    simp only [nms, List.getElem?_map, List.getElem?_eq_getElem h1, List.getElem?_eq_getElem h2, Option.map_some] at this
    exact Option.some.inj this
  exact name_one hB ((h _).1 (List.getElem_mem h1)) (List.getElem_mem h2) e1
theorem state_iff (list : List gSetting) : m_spec_l27State list = true ↔ (∀ e ∈ list, m_spec_l27Setting e = true) ∧ Rise (nms list) ∧ list.length ≤ 24 := by
  rw [state_all]
  constructor
  · rintro ⟨h, hl⟩
    have hs : ∀ j : Nat, j < list.length → m_spec_l27Setting (at' list j) = true ∧ (0 < j → (at' list ((j : Int) - 1)).Name < (at' list j).Name) := fun j hj => by
      have := h j (by omega) hj
      simp only [Bool.or_eq_false_iff, Bool.not_eq_false', Bool.and_eq_false_iff, decide_eq_false_iff_not, geq_eq, decide_eq_true_eq] at this
      refine ⟨this.1, fun h0 => ?_⟩
      rcases this.2 with h' | h'
      · omega
      · exact h'
    have hup : ∀ (d j : Nat), ∀ h : j + d + 1 < list.length, list[j].Name < list[j + d + 1].Name := fun d => by
      induction d with
      | zero =>
        intro j hj
        have := (hs (j + 1) hj).2 (by omega)
        rw [show (((j + 1 : Nat) : Int) - 1) = (j : Int) by omega, at_lt (by omega), at_lt hj] at this
        exact this
      | succ d ih =>
        intro j hj
        have h1 := ih j (by omega)
        have := (hs (j + (d + 1) + 1) hj).2 (by omega)
        rw [show (((j + (d + 1) + 1 : Nat) : Int) - 1) = ((j + d + 1 : Nat) : Int) by omega, at_lt (by omega), at_lt hj] at this
        exact lt_trans' h1 this
    refine ⟨fun e he => ?_, ?_, hl⟩
    · obtain ⟨i, hi, rfl⟩ := List.getElem_of_mem he
      have := (hs i hi).1
      rwa [at_lt hi] at this
    · refine List.pairwise_iff_getElem.2 fun i j hi hj hij => ?_
      have hi' : i < list.length := by simpa [nms] using hi
      have hj' : j < list.length := by simpa [nms] using hj
      simp only [nms, List.getElem_map]
      have := hup (j - i - 1) i (by omega)
      have e : i + (j - i - 1) + 1 = j := by omega
      simp only [e] at this
      exact this
  · rintro ⟨h1, h2, h3⟩
    refine ⟨fun j h0 hj => ?_, h3⟩
    simp only [Bool.or_eq_false_iff, Bool.not_eq_false', Bool.and_eq_false_iff, decide_eq_false_iff_not, geq_eq, decide_eq_true_eq]
    refine ⟨by rw [at_lt hj]; exact h1 _ (List.getElem_mem hj), ?_⟩
    by_cases hj0 : j = 0
    · left; omega
    · right
      have := List.pairwise_iff_getElem.1 h2 (j - 1) j (by simp [nms]; omega) (by simpa [nms] using hj) (by omega)
      simp only [nms, List.getElem_map] at this
      rw [show ((j : Int) - 1) = ((j - 1 : Nat) : Int) by omega, at_lt (by omega), at_lt hj]
      exact this
theorem same_refl (a : List gSetting) : m_spec_l27Same a a = true := by
  have h := LOOP_all (b := m_spec_l27Same_b1 a a) (n := a.length) (fun rec k i _ => rfl) (k := fun _ => true) (((a.length : Int) - 0 : Int).toNat + 1) 0 (by omega) (by omega) (by omega)
  simp only [m_spec_l27Same, bne_self_eq_false, Bool.cond_false]
  rw [h]
  refine ⟨fun j _ _ => ?_, rfl⟩
  simp [strB]

/-! ## Drawn states -/
def six : List Txt := [[97], [98], [99], [100], [101], [102]]
theorem six_rise : Rise six := by decide
theorem six_name : ∀ n ∈ six, m_spec_l01Name n = true := by
  intro n hn
  simp only [six, List.mem_cons, List.not_mem_nil, or_false] at hn
  rcases hn with rfl | rfl | rfl | rfl | rfl | rfl <;> rfl
theorem six_lt {i j : Nat} (hi : i < 6) (hj : j < i) : at' six (j : Int) < at' six (i : Int) := by
  have := List.pairwise_iff_getElem.1 six_rise j i (by simp [six]; omega) (by simp [six]; omega) hj
  rw [at_lt (by simp [six]; omega), at_lt (by simp [six]; omega)]
  exact this
theorem six_at {i : Int} (h : 0 ≤ i ∧ i < 6) : at' six i ∈ six := at_mem ⟨h.1, by simp [six]; omega⟩
theorem five_at {i : Int} (h : 0 ≤ i ∧ i < 5) : at' ([([97] : List UInt8), ([98] : List UInt8), ([99] : List UInt8), ([100] : List UInt8), ([101] : List UInt8)] : List (List UInt8)) i = at' six i := by
  have : i = 0 ∨ i = 1 ∨ i = 2 ∨ i = 3 ∨ i = 4 := by omega
  rcases this with rfl | rfl | rfl | rfl | rfl <;> rfl
def DS (L : List gSetting) : Prop := Rise (nms L) ∧ ∀ e ∈ L, e.Name ∈ six ∧ 0 ≤ e.Value ∧ e.Value ≤ 1000
theorem DS.nil : DS [] := ⟨List.Pairwise.nil, fun e he => absurd he List.not_mem_nil⟩
theorem DS.len {L : List gSetting} (h : DS L) : L.length ≤ 6 := by
  have e : nms L = six.filter (fun n => decide (n ∈ nms L)) := by
    refine rise_ext h.1 (List.Pairwise.filter _ six_rise) fun x => ?_
    rw [List.mem_filter]
    constructor
    · intro hx
      obtain ⟨q, hq, rfl⟩ := List.mem_map.1 hx
      exact ⟨(h.2 q hq).1, by simpa using hx⟩
    · rintro ⟨_, hx⟩; simpa using hx
  have h1 : L.length = (nms L).length := by simp [nms]
  have h2 : (six.filter (fun n => decide (n ∈ nms L))).length ≤ six.length := List.length_filter_le _ _
  have h3 : six.length = 6 := rfl
  rw [h1, e]; omega
theorem DS.setting {L : List gSetting} (h : DS L) : ∀ e ∈ L, m_spec_l27Setting e = true := fun e he => by
  have := h.2 e he
  simp only [m_spec_l27Setting, six_name _ this.1, m_spec_l00In, Bool.true_and, Bool.and_eq_true, decide_eq_true_eq]
  exact this.2
theorem DS.valid {L : List gSetting} (h : DS L) : m_spec_l27State L = true := (state_iff L).2 ⟨h.setting, h.1, by have := h.len; omega⟩
theorem DS.validI {L : List gSetting} (h : DS L) : m_impl_ValidState L = true := by rw [state_eq]; exact h.valid
theorem DS.snoc {L : List gSetting} {i v : Int} (h : DS L) (hi : 0 ≤ i ∧ i < 6) (hu : ∀ e ∈ L, ∃ j : Nat, (j : Int) < i ∧ e.Name = at' six (j : Int)) (hv : 0 ≤ v ∧ v ≤ 1000) : DS (L ++ ([gSetting.mk (at' six i) v] : List gSetting)) := by
  refine ⟨?_, fun e he => ?_⟩
  · simp only [nms, List.map_append, List.map_cons, List.map_nil, Rise]
    rw [List.pairwise_append]
    refine ⟨h.1, List.pairwise_singleton _ _, fun z hz y hy => ?_⟩
    rw [List.mem_singleton] at hy
    obtain ⟨q, hq, rfl⟩ := List.mem_map.1 hz
    obtain ⟨j, hj, e⟩ := hu q hq
    rw [hy, e, show i = ((i.toNat : Nat) : Int) by omega]
    exact six_lt (by omega) (by omega)
  · rw [List.mem_append, List.mem_singleton] at he
    rcases he with he | he
    · exact h.2 e he
    · rw [he]; exact ⟨six_at hi, hv⟩
theorem draw_state {s : gl00Src} {n : Int} (h : Lim s n) : DS (m_spec_l27DrawState s).1 ∧ Lim (m_spec_l27DrawState s).2 (n + 20) := by
  simp only [m_spec_l27DrawState]
  refine LOOP_post (fun (x : (List Int) × Int × Int × (List gSetting) × Int) => (0 ≤ x.2.2.2.2 ∧ x.2.2.2.2 ≤ 5) ∧ LimA x.1 x.2.1 (n + 4 * x.2.2.2.2) ∧ DS x.2.2.2.1 ∧ ∀ e ∈ x.2.2.2.1, ∃ j : Nat, (j : Int) < x.2.2.2.2 ∧ e.Name = at' six (j : Int)) (fun x => (5 - x.2.2.2.2).toNat)
    (fun _ (r : (List gSetting) × gl00Src) => DS r.1 ∧ Lim r.2 (n + 20)) (fun rec x hI ih => ?_) _ _ ⟨⟨by simp, by simp⟩, by simpa using h.out (by omega), DS.nil, fun e he => absurd he List.not_mem_nil⟩ (by simp)
  obtain ⟨c, a, sd, L, i⟩ := x
  obtain ⟨⟨h0, h1⟩, hl, hd, hu⟩ := hI
  simp only at h0 h1 hl hd hu
  simp only [m_spec_l27DrawState_b1]
  by_cases hi : i < 5
  · simp only [hi, decide_true, Bool.cond_true]
    have hs : Lim (gl00Src.mk c a sd) (n + 4 * i) := Lim.mk hl
    have ho := hs.one (k := 2)
    cases (m_spec_l00Src_one (gl00Src.mk c a sd) 2).1 with
    | true =>
      simp only [Bool.cond_true]
      have hp := ho.pick (k := 1001)
      have hv := ho.num (k := 1001)
      refine ih _ ⟨⟨by simp only; omega, by simp only; omega⟩, hp.out (by simp only; omega), ?_, ?_⟩ (by simp only; omega)
      · simp only
        rw [five_at (by omega)]
        exact hd.snoc (by omega) hu (by have := hv.2 (by omega); omega)
      · simp only
        intro e he
        rw [List.mem_append, List.mem_singleton] at he
        rcases he with he | he
        · obtain ⟨j, hj, e2⟩ := hu e he
          exact ⟨j, by omega, e2⟩
        · refine ⟨i.toNat, by omega, ?_⟩
          rw [he, show ((i.toNat : Nat) : Int) = i by omega]
          exact five_at (by omega)
    | false =>
      simp only [Bool.cond_false]
      exact ih _ ⟨⟨by simp only; omega, by simp only; omega⟩, ho.out (by simp only; omega), hd, fun e he => by
        obtain ⟨j, hj, e2⟩ := hu e he
        exact ⟨j, by simp only; omega, e2⟩⟩ (by simp only; omega)
  · simp only [hi, decide_false, Bool.cond_false]
    exact ⟨hd, Lim.mk (hl.mono (by omega))⟩
theorem set_el (L : List gSetting) (e : gSetting) : ∀ x ∈ m_spec_l27Set L e, x = e ∨ x ∈ L := by
  simp only [m_spec_l27Set]
  refine LOOP_post (fun (x : List gSetting × Bool × Int) => (0 ≤ x.2.2 ∧ x.2.2 ≤ L.length) ∧ ∀ y ∈ x.1, y = e ∨ y ∈ L) (fun x => ((L.length : Int) - x.2.2).toNat) (fun _ (r : List gSetting) => ∀ y ∈ r, y = e ∨ y ∈ L) (fun rec x hI ih => ?_) _ _ ⟨⟨by simp, by simp⟩, fun y hy => absurd hy List.not_mem_nil⟩ (by simp)
  obtain ⟨out, done, i⟩ := x
  obtain ⟨⟨h0, h1⟩, hA⟩ := hI
  simp only at h0 h1 hA
  have hs : ∀ (l : List gSetting) (q : gSetting), (∀ y ∈ l, y = e ∨ y ∈ L) → (q = e ∨ q ∈ L) → ∀ y ∈ l ++ ([q] : List gSetting), y = e ∨ y ∈ L := fun l q h1 h2 y hy => by
    rw [List.mem_append, List.mem_singleton] at hy
    rcases hy with hy | hy
    · exact h1 y hy
    · rw [hy]; exact h2
  simp only [m_spec_l27Set_b1, JN]
  by_cases hi : i < (L.length : Int)
  · simp only [hi, decide_true, Bool.cond_true]
    have hat : at' L i ∈ L := at_mem ⟨h0, hi⟩
    cases (!done && strB .geq (at' L i).Name e.Name) <;> cases (strB .neq (at' L i).Name e.Name) <;> simp only [Bool.cond_true, Bool.cond_false]
    · exact ih _ ⟨⟨by simp only; omega, by simp only; omega⟩, hA⟩ (by simp only; omega)
    · exact ih _ ⟨⟨by simp only; omega, by simp only; omega⟩, hs _ _ hA (.inr hat)⟩ (by simp only; omega)
    · exact ih _ ⟨⟨by simp only; omega, by simp only; omega⟩, hs _ _ hA (.inl rfl)⟩ (by simp only; omega)
    · exact ih _ ⟨⟨by simp only; omega, by simp only; omega⟩, hs _ _ (hs _ _ hA (.inl rfl)) (.inr hat)⟩ (by simp only; omega)
  · simp only [hi, decide_false, Bool.cond_false]
    cases done with
    | true => exact hA
    | false => exact hs _ _ hA (.inl rfl)
theorem DS.set {L : List gSetting} {n : Txt} {v : Int} (h : DS L) (hn : n ∈ six) (hv : 0 ≤ v ∧ v ≤ 1000) : DS (m_spec_l27Set L (gSetting.mk n v)) := by
  refine ⟨(set_is h.1 _).1, fun e he => ?_⟩
  rcases set_el _ _ e he with he | he
  · rw [he]; exact ⟨hn, hv⟩
  · exact h.2 e he
theorem DS.drop {L : List gSetting} {k : Int} (h : DS L) (hk : 0 ≤ k ∧ k < L.length) : DS ((([] : List gSetting) ++ (pre' L k)) ++ (cut' L (IntKind.wrap .i64 (k + 1)) (L.length : Int))) := by
  have hl := h.len
  have hs : List.Sublist ((([] : List gSetting) ++ (pre' L k)) ++ (cut' L (IntKind.wrap .i64 (k + 1)) (L.length : Int))) L := by
    rw [wr64 (by omega), List.nil_append]
    unfold pre' cut'
    have e : (((L.length : Int).toNat) - (k + 1).toNat) = L.length - (k + 1).toNat := by omega
    have h1 : List.Sublist (L.take k.toNat ++ L.drop (k + 1).toNat) (L.take k.toNat ++ L.drop k.toNat) := List.Sublist.append (List.Sublist.refl _) (by
      rw [show (k + 1).toNat = k.toNat + 1 by omega, ← List.drop_drop]
      exact List.drop_sublist _ _)
    rw [List.take_append_drop] at h1
    refine List.Sublist.trans (List.Sublist.append (List.Sublist.refl _) ?_) h1
    first | exact List.take_sublist _ _ | exact List.Sublist.refl _ | (rw [Int.toNat_natCast, List.take_length]; exact List.Sublist.refl _) | skip
  exact ⟨List.Pairwise.sublist (hs.map _) h.1, fun e he => h.2 e (hs.subset he)⟩
theorem at27_rng {list : List gSetting} {name : Txt} (h : 0 ≤ m_spec_l27At list name) : 0 ≤ m_spec_l27At list name ∧ m_spec_l27At list name < list.length := at_rng h
theorem changed_state {s : gl00Src} {n : Int} {L : List gSetting} (h : Lim s n) (hL : DS L) : DS (m_spec_l27Changed s L).1 ∧ Lim (m_spec_l27Changed s L).2 (n + 20) := by
  simp only [m_spec_l27Changed]
  have hp0 := h.pick (k := 4)
  have hn0 := h.num (k := 4)
  have hn1 := hn0.2 (by omega)
  refine LOOP_post (fun (x : (List Int) × Int × Int × (List gSetting) × Int) => (0 ≤ x.2.2.2.2 ∧ x.2.2.2.2 ≤ 3) ∧ LimA x.1 x.2.1 (n + 20 - 6 * x.2.2.2.2) ∧ DS x.2.2.2.1) (fun x => x.2.2.2.2.toNat)
    (fun _ (r : (List gSetting) × gl00Src) => DS r.1 ∧ Lim r.2 (n + 20)) (fun rec x hI ih => ?_) _ _ ⟨⟨hn0.1, by simp only; omega⟩, hp0.out (by simp only; omega), by simpa using hL⟩ (by simp only; omega)
  obtain ⟨c, a, sd, l, i⟩ := x
  obtain ⟨⟨h0, h1⟩, hl, hd⟩ := hI
  simp only at h0 h1 hl hd
  simp only [m_spec_l27Changed_b1]
  by_cases hi : 0 < i
  · simp only [hi, decide_true, Bool.cond_true]
    have hs : Lim (gl00Src.mk c a sd) (n + 20 - 6 * i) := Lim.mk hl
    have hp := hs.pick (k := 6)
    have hv := hs.num (k := 6)
    have hnm := six_at ⟨hv.1, hv.2 (by omega)⟩
    have e6 : ([([97] : List UInt8), ([98] : List UInt8), ([99] : List UInt8), ([100] : List UInt8), ([101] : List UInt8), ([102] : List UInt8)] : List (List UInt8)) = six := rfl
    rw [e6]
    generalize at' six (m_spec_l00Src_pick (gl00Src.mk c a sd) 6).1 = nm at hnm
    have ho : Lim (bif (decide (0 ≤ (m_spec_l27At l nm))) then (m_spec_l00Src_one (m_spec_l00Src_pick (gl00Src.mk c a sd) 6).2 2).2 else (m_spec_l00Src_pick (gl00Src.mk c a sd) 6).2) (n + 20 - 6 * i + 2 + 2) := hp.bif1
    cases hc : (decide (0 ≤ (m_spec_l27At l nm))) && (m_spec_l00Src_one (m_spec_l00Src_pick (gl00Src.mk c a sd) 6).2 2).1 with
    | true =>
      simp only [Bool.cond_true]
      simp only [Bool.and_eq_true, decide_eq_true_eq] at hc
      exact ih _ ⟨⟨by simp only; omega, by simp only; omega⟩, ho.out (by simp only; omega), hd.drop (at_rng hc.1)⟩ (by simp only; omega)
    | false =>
      simp only [Bool.cond_false]
      have hq := ho.pick (k := 1001)
      have hw := ho.num (k := 1001)
      exact ih _ ⟨⟨by simp only; omega, by simp only; omega⟩, hq.out (by simp only; omega), hd.set hnm (by have := hw.2 (by omega); omega)⟩ (by simp only; omega)
  · simp only [hi, decide_false, Bool.cond_false]
    exact ⟨hd, Lim.mk (hl.mono (by omega))⟩

/-! ## Numbers within bounds -/
theorem allWithin_iff {list : List Int} {lo hi : Int} : m_impl_allWithin list lo hi = true ↔ ∀ y ∈ list, lo ≤ y ∧ y ≤ hi := by
  simp only [m_impl_allWithin, Bool.not_eq_true']
  rw [← Bool.not_eq_true, cf_int64]
  simp only [m_impl_allWithin_1, m_impl_within, Bool.not_eq_true', Bool.and_eq_false_iff, decide_eq_false_iff_not]
  constructor
  · intro h y hy
    refine Decidable.byContradiction fun hn => h ⟨y, hy, ?_⟩
    omega
  · rintro h ⟨y, hy, h2⟩
    have := h y hy
    omega

/-! ## The numbers of the law -/
theorem r8At_rng {code : List Int} (hc : ∀ y ∈ code, 0 ≤ y ∧ y ≤ 255) {k n : Int} (hn : 1 ≤ n) : 0 ≤ m_laws_r8At code k n ∧ m_laws_r8At code k n < n := by
  simp only [m_laws_r8At]
  cases (decide (n ≤ 1)) || (decide ((code.length : Int) ≤ k)) with
  | true => simp only [Bool.cond_true]; omega
  | false =>
    simp only [Bool.cond_false]
    have h := code_at hc k
    rw [wr64 (by omega), Int.tmod_eq_emod_of_nonneg h.1]
    exact ⟨Int.emod_nonneg _ (by omega), Int.emod_lt_of_pos _ (by omega)⟩

/-! ## Memos: both models judge alike -/
theorem memo_eq (s : List UInt8) : m_impl_memoValid s = m_spec_l27Memo s := by
  rw [Bool.eq_iff_iff]
  have h1 := LOOP_all (b := m_impl_bytesWithin_b1 s 32 126) (n := s.length) (fun rec k i _ => rfl) (k := fun _ => true) (((s.length : Int) - 0 : Int).toNat + 1) 0 (by omega) (by omega) (by omega)
  have h2 := LOOP_all (b := m_spec_l27Memo_b1 s) (n := s.length) (fun rec k i _ => rfl) (k := fun _ => decide ((s.length : Int) ≤ 20)) (((s.length : Int) - 0 : Int).toNat + 1) 0 (by omega) (by omega) (by omega)
  simp only [m_impl_memoValid, m_spec_l27Memo, m_impl_bytesWithin, Bool.and_eq_true]
  rw [h1, h2]
  constructor
  · rintro ⟨a, b, _⟩; exact ⟨b, a⟩
  · rintro ⟨b, a⟩; exact ⟨a, b, rfl⟩
theorem memo_len {s : List UInt8} (h : m_spec_l27Memo s = true) : s.length ≤ 20 := by
  have h2 := LOOP_all (b := m_spec_l27Memo_b1 s) (n := s.length) (fun rec k i _ => rfl) (k := fun _ => decide ((s.length : Int) ≤ 20)) (((s.length : Int) - 0 : Int).toNat + 1) 0 (by omega) (by omega) (by omega)
  have := (h2.1 h).2
  simp at this; omega
theorem memo_lenI {s : List UInt8} (h : m_impl_memoValid s = true) : s.length ≤ 20 := memo_len (by rw [← memo_eq]; exact h)

/-! ## FnMerges: drawn histories, lines and common ancestors -/
def HV (list : List gVersion) : Prop := list.length ≤ 32 ∧ ∀ j : Nat, j < list.length → (at' list (j : Int)).Number = (j : Int) + 1 ∧ (0 ≤ (at' list (j : Int)).Parent ∧ (at' list (j : Int)).Parent ≤ j) ∧ m_spec_l27Memo (at' list (j : Int)).Memo = true ∧ m_spec_l27State (at' list (j : Int)).State = true
theorem hist_iff (list : List gVersion) : m_spec_l27Ok list = true ↔ HV list := by
  have h := LOOP_all (b := m_spec_l27Ok_b1 list) (n := list.length) (fun rec k i _ => rfl) (k := fun _ => decide ((list.length : Int) ≤ 32)) (((list.length : Int) - 0 : Int).toNat + 1) 0 (by omega) (by omega) (by omega)
  simp only [m_spec_l27Ok]
  rw [h]
  simp only [Bool.or_eq_false_iff, bne_eq_false_iff_eq, Bool.not_eq_false', decide_eq_true_eq, m_spec_l00In, Bool.and_eq_true]
  constructor
  · rintro ⟨h1, h2⟩
    exact ⟨by omega, fun j hj => by have := h1 j (by omega) hj; exact ⟨this.1.1.1, this.1.1.2, this.1.2, this.2⟩⟩
  · rintro ⟨h1, h2⟩
    exact ⟨fun j _ hj => by have := h2 j hj; exact ⟨⟨⟨this.1, this.2.1⟩, this.2.2.1⟩, this.2.2.2⟩, by omega⟩
theorem histI_iff (list : List gVersion) : m_impl_ValidHistory list = true ↔ HV list := by
  have h := LOOP_all (b := m_impl_ValidHistory_b1 list) (n := list.length) (fun rec k i _ => rfl) (k := fun _ => true) (((list.length : Int) - 0 : Int).toNat + 1) 0 (by omega) (by omega) (by omega)
  simp only [m_impl_ValidHistory]
  by_cases hl : 32 < (list.length : Int)
  · simp only [hl, decide_true, Bool.cond_true]
    constructor
    · intro h; exact absurd h (by decide)
    · rintro ⟨h, _⟩; omega
  · simp only [hl, decide_false, Bool.cond_false]
    rw [h]
    simp only [Bool.or_eq_false_iff, bne_eq_false_iff_eq, Bool.not_eq_false', decide_eq_true_eq, m_impl_within, Bool.and_eq_true, memo_eq, state_eq]
    constructor
    · rintro ⟨h1, h2⟩
      exact ⟨by omega, fun j hj => by have := h1 j (by omega) hj; exact ⟨this.1.1.1, this.1.1.2, this.1.2, this.2⟩⟩
    · rintro ⟨h1, h2⟩
      exact ⟨fun j _ hj => by have := h2 j hj; exact ⟨⟨⟨this.1, this.2.1⟩, this.2.2.1⟩, this.2.2.2⟩, trivial⟩
theorem at_app_lt {α : Type} [Inhabited α] {xs : List α} {y : α} {j : Nat} (h : j < xs.length) : at' (xs ++ [y]) (j : Int) = at' xs (j : Int) := by
  rw [at_lt h, at_lt (by rw [List.length_append]; omega), List.getElem_append_left h]
theorem at_app_eq {α : Type} [Inhabited α] {xs : List α} {y : α} : at' (xs ++ [y]) (xs.length : Int) = y := by
  rw [at_lt (by rw [List.length_append, List.length_singleton]; omega)]; simp
theorem HV.snoc {list : List gVersion} {p : Int} {memo : List UInt8} {st : List gSetting} (h : HV list) (hl : list.length < 32) (hp : 0 ≤ p ∧ p ≤ list.length) (hm : m_spec_l27Memo memo = true) (hs : m_spec_l27State st = true) : HV (list ++ ([gVersion.mk ((list.length : Int) + 1) p memo st] : List gVersion)) := by
  refine ⟨by rw [List.length_append, List.length_singleton]; omega, fun j hj => ?_⟩
  rw [List.length_append, List.length_singleton] at hj
  by_cases hjl : j < list.length
  · rw [at_app_lt hjl]; exact h.2 j hjl
  · have : j = list.length := by omega
    subst this
    rw [at_app_eq]
    exact ⟨rfl, hp, hm, hs⟩
theorem HV.nil : HV [] := ⟨by simp, fun j hj => by simp at hj⟩
/-- a history whose states are drawn -/
def HD (list : List gVersion) : Prop := HV list ∧ ∀ v ∈ list, DS v.State
theorem draw_hist {s : gl00Src} {n : Int} (h : Lim s n) : HD (m_spec_l27Draw s).1 ∧ (m_spec_l27Draw s).1.length ≤ 5 := by
  simp only [m_spec_l27Draw]
  have hp0 := h.pick (k := 6)
  have hn0 := h.num (k := 6)
  have hn1 := hn0.2 (by omega)
  refine LOOP_post (fun (x : (List Int) × Int × Int × (List gVersion) × Int) => (0 ≤ x.2.2.2.2 ∧ x.2.2.2.2 + x.2.2.2.1.length ≤ 5) ∧ LimA x.1 x.2.1 100000000000000 ∧ HD x.2.2.2.1) (fun x => x.2.2.2.2.toNat)
    (fun _ (r : (List gVersion) × gl00Src) => HD r.1 ∧ r.1.length ≤ 5) (fun rec x hI ih => ?_) _ _ ⟨⟨hn0.1, by simp only [List.length_nil]; omega⟩, ⟨hp0.1, fun h => by omega⟩, HV.nil, fun v hv => absurd hv List.not_mem_nil⟩ (by simp only; omega)
  obtain ⟨c, a, sd, l, i⟩ := x
  obtain ⟨⟨h0, h1⟩, hl, hd⟩ := hI
  simp only at h0 h1 hl hd
  simp only [m_spec_l27Draw_b1, JN]
  by_cases hi : 0 < i
  · simp only [hi, decide_true, Bool.cond_true]
    have hs : Lim (gl00Src.mk c a sd) 100000000000000 := Lim.mk hl
    have e1 : IntKind.wrap .i64 ((l.length : Int) + 1) = l.length + 1 := wr64 (by omega)
    rw [e1]
    have hq := hs.pick (k := (l.length : Int) + 1)
    have hv := hs.num (k := (l.length : Int) + 1)
    have hv2 := hv.2 (by omega)
    have hst := draw_state hq
    generalize (m_spec_l00Src_pick (gl00Src.mk c a sd) ((l.length : Int) + 1)).2 = s1 at hst hq ⊢
    generalize (m_spec_l00Src_pick (gl00Src.mk c a sd) ((l.length : Int) + 1)).1 = p at hv hv2 ⊢
    have fin : ∀ (s2 : gl00Src) (m : Int) (st : List gSetting), Lim s2 m → DS st → HD (rec ((m_spec_l00Src_text (gl00Src.mk s2.code s2.at_ s2.seed) ([([] : List UInt8), ([110, 101, 119] : List UInt8), ([97, 32, 98] : List UInt8)] : List (List UInt8))).2.1.code, (m_spec_l00Src_text (gl00Src.mk s2.code s2.at_ s2.seed) ([([] : List UInt8), ([110, 101, 119] : List UInt8), ([97, 32, 98] : List UInt8)] : List (List UInt8))).2.1.at_, (m_spec_l00Src_text (gl00Src.mk s2.code s2.at_ s2.seed) ([([] : List UInt8), ([110, 101, 119] : List UInt8), ([97, 32, 98] : List UInt8)] : List (List UInt8))).2.1.seed, l ++ ([gVersion.mk ((l.length : Int) + 1) p (m_spec_l00Src_text (gl00Src.mk s2.code s2.at_ s2.seed) ([([] : List UInt8), ([110, 101, 119] : List UInt8), ([97, 32, 98] : List UInt8)] : List (List UInt8))).1 st] : List gVersion), i - 1)).1 ∧ (rec ((m_spec_l00Src_text (gl00Src.mk s2.code s2.at_ s2.seed) ([([] : List UInt8), ([110, 101, 119] : List UInt8), ([97, 32, 98] : List UInt8)] : List (List UInt8))).2.1.code, (m_spec_l00Src_text (gl00Src.mk s2.code s2.at_ s2.seed) ([([] : List UInt8), ([110, 101, 119] : List UInt8), ([97, 32, 98] : List UInt8)] : List (List UInt8))).2.1.at_, (m_spec_l00Src_text (gl00Src.mk s2.code s2.at_ s2.seed) ([([] : List UInt8), ([110, 101, 119] : List UInt8), ([97, 32, 98] : List UInt8)] : List (List UInt8))).2.1.seed, l ++ ([gVersion.mk ((l.length : Int) + 1) p (m_spec_l00Src_text (gl00Src.mk s2.code s2.at_ s2.seed) ([([] : List UInt8), ([110, 101, 119] : List UInt8), ([97, 32, 98] : List UInt8)] : List (List UInt8))).1 st] : List gVersion), i - 1)).1.length ≤ 5 := fun s2 m st hs2 hst2 => by
      have hs3 : Lim (gl00Src.mk s2.code s2.at_ s2.seed) 100000000000000 := ⟨hs2.1, fun h => by omega⟩
      have hm := hs3.num (k := 3)
      have hm2 := hm.2 (by omega)
      have hmem : m_spec_l27Memo (m_spec_l00Src_text (gl00Src.mk s2.code s2.at_ s2.seed) ([([] : List UInt8), ([110, 101, 119] : List UInt8), ([97, 32, 98] : List UInt8)] : List (List UInt8))).1 = true := by
        show m_spec_l27Memo (at' ([([] : List UInt8), ([110, 101, 119] : List UInt8), ([97, 32, 98] : List UInt8)] : List (List UInt8)) (m_spec_l00Src_pick (gl00Src.mk s2.code s2.at_ s2.seed) 3).1) = true
        generalize (m_spec_l00Src_pick (gl00Src.mk s2.code s2.at_ s2.seed) 3).1 = q at hm hm2
        have : q = 0 ∨ q = 1 ∨ q = 2 := by omega
        rcases this with rfl | rfl | rfl <;> rfl
      refine ih _ ⟨⟨by simp only; omega, by simp only [List.length_append, List.length_singleton]; omega⟩, ⟨(hs3.pick (k := 3)).1, fun h => by omega⟩, hd.1.snoc (by omega) (by omega) hmem hst2.valid, fun v hv => ?_⟩ (by simp only; omega)
      rw [List.mem_append, List.mem_singleton] at hv
      rcases hv with hv | hv
      · exact hd.2 v hv
      · rw [hv]; exact hst2
    by_cases hp : 0 < p
    · simp only [hp, decide_true, Bool.cond_true]
      have e2 : IntKind.wrap .i64 (p - 1) = p - 1 := wr64 (by omega)
      rw [e2]
      have hds : DS (at' l (p - 1)).State := hd.2 _ (at_mem ⟨by omega, by omega⟩)
      have hch := changed_state hst.2 hds
      exact fin _ _ _ hch.2 hch.1
    · simp only [hp, decide_false, Bool.cond_false]
      exact fin _ _ _ hst.2 hst.1
  · simp only [hi, decide_false, Bool.cond_false]
    exact ⟨hd, by omega⟩
/-! ### Lines -/
def lineF (list : List gVersion) : Nat → Int → List Int
  | 0, _ => []
  | k + 1, n => if 0 < n then n :: lineF list k (at' list (n - 1)).Parent else []
theorem HV.par {list : List gVersion} (h : HV list) {n : Int} (hn : 0 < n ∧ n ≤ list.length) : 0 ≤ (at' list (n - 1)).Parent ∧ (at' list (n - 1)).Parent ≤ n - 1 := by
  have := (h.2 (n - 1).toNat (by omega)).2.1
  rw [show (((n - 1).toNat : Nat) : Int) = n - 1 by omega] at this
  exact this
theorem line_loop {list : List gVersion} (h : HV list) {m : Int} : ∀ (fuel : Nat) (n : Int) (acc : List Int), 0 ≤ n → n ≤ list.length → n.toNat < fuel → LOOP (m_impl_lineOf_b1 list m) (fun (x1 : Int × (List Int)) => x1.2) fuel (n, acc) = acc ++ lineF list fuel n
  | 0, _, _, _, _, hf => by omega
  | fuel + 1, n, acc, h0, h1, hf => by
    have hl := h.1
    rw [LOOP, m_impl_lineOf_b1, lineF]
    by_cases hn : 0 < n
    · simp only [hn, decide_true, Bool.cond_true, if_true]
      rw [wr64 (n := n - 1) (by omega)]
      have hp := h.par ⟨hn, h1⟩
      rw [line_loop h fuel _ _ hp.1 (by omega) (by omega)]
      simp
    · simp [hn]
theorem line_is {list : List gVersion} (h : HV list) {n : Int} (h0 : 0 ≤ n ∧ n ≤ list.length) : m_impl_lineOf list n = lineF list (n.toNat + 1) n := by
  simp only [m_impl_lineOf]
  rw [line_loop h _ _ _ h0.1 h0.2 (by omega), List.nil_append]
theorem line_mem {list : List gVersion} (h : HV list) : ∀ (k : Nat) (n : Int), 0 ≤ n → n ≤ list.length → ∀ x ∈ lineF list k n, 1 ≤ x ∧ x ≤ n
  | 0, _, _, _, x, hx => by simp [lineF] at hx
  | k + 1, n, h0, h1, x, hx => by
    rw [lineF] at hx
    by_cases hn : 0 < n
    · rw [if_pos hn] at hx
      have hp := h.par ⟨hn, h1⟩
      rcases List.mem_cons.1 hx with e | e
      · omega
      · have := line_mem h k _ hp.1 (by omega) x e; omega
    · rw [if_neg hn] at hx; simp at hx
theorem line_down {list : List gVersion} (h : HV list) : ∀ (k : Nat) (n : Int), 0 ≤ n → n ≤ list.length → (lineF list k n).Pairwise (fun x y => y < x)
  | 0, _, _, _ => List.Pairwise.nil
  | k + 1, n, h0, h1 => by
    rw [lineF]
    by_cases hn : 0 < n
    · rw [if_pos hn]
      have hp := h.par ⟨hn, h1⟩
      refine List.Pairwise.cons (fun x hx => ?_) (line_down h k _ hp.1 (by omega))
      have := line_mem h k _ hp.1 (by omega) x hx; omega
    · rw [if_neg hn]; exact List.Pairwise.nil
theorem has_iff (s : List Int) (v : Int) : m_slices_Contains_int64 s v = true ↔ v ∈ s := by
  have key : (m_slices_Index_int64 s v = -1 ∧ v ∉ s) ∨ (0 ≤ m_slices_Index_int64 s v ∧ v ∈ s) := by
    simp only [m_slices_Index_int64]
    refine LOOP_post (fun (x : Int) => (0 ≤ x ∧ x ≤ s.length) ∧ ∀ q, 0 ≤ q → q < x → at' s q ≠ v) (fun x => ((s.length : Int) - x).toNat) (fun _ (r : Int) => (r = -1 ∧ v ∉ s) ∨ (0 ≤ r ∧ v ∈ s)) (fun rec x hI ih => ?_) _ _ ⟨⟨by omega, by omega⟩, fun q h1 h2 => by omega⟩ (by omega)
    obtain ⟨⟨h0, h1⟩, h2⟩ := hI
    simp only [m_slices_Index_int64_b1]
    by_cases hi : x < (s.length : Int)
    · simp only [hi, decide_true, Bool.cond_true]
      cases hq : (v == at' s x) with
      | true => simp only [Bool.cond_true]; exact .inr ⟨h0, by have : v = at' s x := by simpa using hq
                                                               rw [this]; exact at_mem ⟨h0, hi⟩⟩
      | false =>
        simp only [Bool.cond_false]
        refine ih _ ⟨⟨by omega, by omega⟩, fun q g1 g2 => ?_⟩ (by omega)
        by_cases e : q = x
        · subst e; intro e2; rw [e2] at hq; simp at hq
        · exact h2 q g1 (by omega)
    · simp only [hi, decide_false, Bool.cond_false]
      refine .inl ⟨by first | rfl | trivial, fun hv => ?_⟩
      obtain ⟨j, hj, e⟩ := List.getElem_of_mem hv
      exact h2 (j : Int) (by omega) (by omega) (by rw [at_lt hj]; exact e)
  simp only [m_slices_Contains_int64, decide_eq_true_eq]
  rcases key with ⟨h1, h2⟩ | ⟨h1, h2⟩
  · rw [h1]; constructor
    · intro h; omega
    · intro h; exact absurd h h2
  · exact ⟨fun _ => h2, fun _ => h1⟩
/-- the greatest number of both lines, or 0 -/
def Com (A B : List Int) (r : Int) : Prop := (r = 0 ∧ ∀ x ∈ A, x ∉ B) ∨ (r ∈ A ∧ r ∈ B ∧ ∀ x ∈ A, x ∈ B → x ≤ r)
theorem Com.swap {A B : List Int} {r : Int} (h : Com A B r) : Com B A r := by
  rcases h with ⟨h1, h2⟩ | ⟨h1, h2, h3⟩
  · exact .inl ⟨h1, fun x hx hy => h2 x hy hx⟩
  · exact .inr ⟨h2, h1, fun x hx hy => h3 x hy hx⟩
theorem Com.one {A B : List Int} {r s : Int} (h : Com A B r) (h' : Com A B s) : r = s := by
  rcases h with ⟨h1, h2⟩ | ⟨h1, h2, h3⟩ <;> rcases h' with ⟨g1, g2⟩ | ⟨g1, g2, g3⟩
  · omega
  · exact absurd g2 (h2 _ g1)
  · exact absurd h2 (g2 _ h1)
  · have := h3 _ g1 g2; have := g3 _ h1 h2; omega
theorem com_is {list : List gVersion} (h : HV list) {a b : Int} (ha : 0 ≤ a ∧ a ≤ list.length) : Com (m_impl_lineOf list a) (m_impl_lineOf list b) (m_impl_commonAncestor list a b) := by
  have hd : (m_impl_lineOf list a).Pairwise (fun x y => y < x) := by rw [line_is h ha]; exact line_down h _ _ ha.1 ha.2
  simp only [m_impl_commonAncestor]
  refine LOOP_post (fun (x : Int) => (0 ≤ x ∧ x ≤ (m_impl_lineOf list a).length) ∧ ∀ q, 0 ≤ q → q < x → at' (m_impl_lineOf list a) q ∉ m_impl_lineOf list b) (fun x => (((m_impl_lineOf list a).length : Int) - x).toNat) (fun _ (r : Int) => Com (m_impl_lineOf list a) (m_impl_lineOf list b) r) (fun rec x hI ih => ?_) _ _ ⟨⟨by omega, by omega⟩, fun q h1 h2 => by omega⟩ (by omega)
  obtain ⟨⟨h0, h1⟩, h2⟩ := hI
  simp only [m_impl_commonAncestor_b1]
  by_cases hi : x < ((m_impl_lineOf list a).length : Int)
  · simp only [hi, decide_true, Bool.cond_true]
    cases hc : m_slices_Contains_int64 (m_impl_lineOf list b) (at' (m_impl_lineOf list a) x) with
    | true =>
      simp only [Bool.cond_true]
      refine .inr ⟨at_mem ⟨h0, hi⟩, (has_iff _ _).1 hc, fun y hy hyb => ?_⟩
      obtain ⟨j, hj, e⟩ := List.getElem_of_mem hy
      have hlt : x.toNat < (m_impl_lineOf list a).length := by omega
      have hat : at' (m_impl_lineOf list a) x = (m_impl_lineOf list a)[x.toNat] := by
        have := at_lt (xs := m_impl_lineOf list a) (j := x.toNat) hlt
        rwa [Int.toNat_of_nonneg h0] at this
      rcases Nat.lt_trichotomy j x.toNat with g | g | g
      · have := h2 (j : Int) (by omega) (by omega)
        rw [at_lt hj, e] at this
        exact absurd hyb this
      · subst g; rw [hat, e]; exact Int.le_refl _
      · have := List.pairwise_iff_getElem.1 hd x.toNat j hlt hj g
        rw [hat, ← e]; exact Int.le_of_lt this
    | false =>
      simp only [Bool.cond_false]
      refine ih _ ⟨⟨by omega, by omega⟩, fun q g1 g2 => ?_⟩ (by omega)
      by_cases e : q = x
      · subst e; intro hm; rw [(has_iff _ _).2 hm] at hc; simp at hc
      · exact h2 q g1 (by omega)
  · simp only [hi, decide_false, Bool.cond_false]
    refine .inl ⟨rfl, fun y hy hyb => ?_⟩
    obtain ⟨j, hj, e⟩ := List.getElem_of_mem hy
    have := h2 (j : Int) (by omega) (by omega)
    rw [at_lt hj, e] at this
    exact this hyb
theorem com_rng {list : List gVersion} (h : HV list) {a b : Int} (ha : 0 ≤ a ∧ a ≤ list.length) (hb : 0 ≤ b ∧ b ≤ list.length) : 0 ≤ m_impl_commonAncestor list a b ∧ m_impl_commonAncestor list a b ≤ a ∧ m_impl_commonAncestor list a b ≤ b := by
  rcases com_is h (b := b) ha with ⟨h1, _⟩ | ⟨h1, h2, _⟩
  · omega
  · rw [line_is h ha] at h1
    rw [line_is h hb] at h2
    have := line_mem h _ _ ha.1 ha.2 _ h1
    have := line_mem h _ _ hb.1 hb.2 _ h2
    omega
theorem com_swap {list : List gVersion} (h : HV list) {a b : Int} (ha : 0 ≤ a ∧ a ≤ list.length) (hb : 0 ≤ b ∧ b ≤ list.length) : m_impl_commonAncestor list a b = m_impl_commonAncestor list b a :=
  (com_is h ha).one (com_is h hb).swap
theorem vcode_is {list : List gVersion} (h : HV list) {a b : Int} (ha : 1 ≤ a ∧ a ≤ list.length) (hb : 1 ≤ b ∧ b ≤ list.length) : m_impl_versionsCode list ([a, b] : List Int) = 0 := by
  have h1 : m_impl_ValidHistory list = true := (histI_iff list).2 h
  have h2 : m_impl_allWithin ([a, b] : List Int) 1 (list.length : Int) = true := allWithin_iff.2 fun y hy => by
    simp only [List.mem_cons, List.not_mem_nil, or_false] at hy
    rcases hy with rfl | rfl <;> assumption
  simp only [m_impl_versionsCode, h1, h2, Bool.not_true, Bool.cond_false]
theorem vstate_ok {list : List gVersion} (h : HV list) {n : Int} (hn : 0 ≤ n ∧ n ≤ list.length) : m_spec_l27State (m_impl_versionState list n) = true := by
  have hl := h.1
  simp only [m_impl_versionState]
  cases e : (n == 0) with
  | true => simp only [Bool.cond_true]; exact (state_iff _).2 ⟨fun e he => absurd he List.not_mem_nil, List.Pairwise.nil, by simp⟩
  | false =>
    have : n ≠ 0 := by simpa using e
    simp only [Bool.cond_false]
    rw [wr64 (by omega)]
    have := (h.2 (n - 1).toNat (by omega)).2.2.2
    rw [show (((n - 1).toNat : Nat) : Int) = n - 1 by omega] at this
    exact this
theorem with_is {list : List gVersion} {p : Int} {memo : List UInt8} {st : List gSetting} (hl : list.length < 32) : m_impl_withVersion list p memo st = (list ++ ([gVersion.mk ((list.length : Int) + 1) p memo st] : List gVersion), 0) := by
  have e : ((list.length : Int) == 32) = false := by simp; omega
  simp only [m_impl_withVersion, e, Bool.cond_false]
  have ec : m_slices_Clone_impl_Version list ++ ([gVersion.mk ((list.length : Int) + 1) p memo st] : List gVersion) = list ++ ([gVersion.mk ((list.length : Int) + 1) p memo st] : List gVersion) := by simp [m_slices_Clone_impl_Version]
  rw [ec]
  have h := LOOP_fori (b := m_impl_withVersion_b1 list p memo st) (k := fun (x1 : (List gVersion) × Int) => (x1.1, (0 : Int))) (n := ((list ++ ([gVersion.mk ((list.length : Int) + 1) p memo st] : List gVersion)).length : Int)) (fun i xs => xs ++ [at' (list ++ ([gVersion.mk ((list.length : Int) + 1) p memo st] : List gVersion)) i]) (fun rec xs i h0 h1 => by
    simp only [m_impl_withVersion_b1, ec, h1, decide_true, Bool.cond_true, m_slices_Clone_impl_Setting, List.nil_append]) (fun rec xs => by simp only [m_impl_withVersion_b1, ec]; simp) ((((list ++ ([gVersion.mk ((list.length : Int) + 1) p memo st] : List gVersion)).length : Int) - 0 : Int).toNat + 1) 0 [] (by omega) (by omega) (by omega)
  rw [h]
  simp only [Prod.mk.injEq, and_true]
  rw [fori_map, List.nil_append]
  have e2 : (((list ++ ([gVersion.mk ((list.length : Int) + 1) p memo st] : List gVersion)).length : Int) - 0).toNat = (list ++ ([gVersion.mk ((list.length : Int) + 1) p memo st] : List gVersion)).length := by omega
  rw [e2]
  exact (list_irange _).symm

/-! ## Draws of states and histories: what the walks need -/
theorem Lim.dstate {s : gl00Src} {n : Int} (h : Lim s n) : Lim (m_spec_l27DrawState s).2 (n + 20) := (draw_state h).2
theorem Lim.chg {s : gl00Src} {n : Int} {L : List gSetting} (h : Lim s n) (hL : DS L) : Lim (m_spec_l27Changed s L).2 (n + 20) := (changed_state h hL).2
theorem Lim.text {s : gl00Src} {n : Int} {l : List (List UInt8)} (h : Lim s n) : Lim (m_spec_l00Src_text s l).2.1 (n + 2) := h.pick
theorem chg_set {c : List Int} {a sd n : Int} {l : List gSetting} {d : Bool} (h : LimA c a n) (hd : DS l) : DS (m_spec_l27Set l (gSetting.mk (at' ([([97] : List UInt8), ([98] : List UInt8), ([99] : List UInt8), ([100] : List UInt8), ([101] : List UInt8), ([102] : List UInt8)] : List (List UInt8)) (m_spec_l00Src_pick (gl00Src.mk c a sd) 6).1) (m_spec_l00Src_pick (bif d then (m_spec_l00Src_one (m_spec_l00Src_pick (gl00Src.mk c a sd) 6).2 2).2 else (m_spec_l00Src_pick (gl00Src.mk c a sd) 6).2) 1001).1)) := by
  have hs : Lim (gl00Src.mk c a sd) n := Lim.mk h
  have hv := hs.num (k := 6)
  have hw := (hs.pick (k := 6)).bif1 (k := 2) (c := d) |>.num (k := 1001)
  exact hd.set (six_at ⟨hv.1, hv.2 (by omega)⟩) (by have := hw.2 (by omega); omega)
theorem chg_idx {c : List Int} {a sd n : Int} (h : LimA c a n) : 0 ≤ (m_spec_l00Src_pick (gl00Src.mk c a sd) 6).1 ∧ (m_spec_l00Src_pick (gl00Src.mk c a sd) 6).1 < 6 := by
  have hv := (Lim.mk (b := sd) h).num (k := 6)
  exact ⟨hv.1, hv.2 (by omega)⟩
theorem chg_drop {l : List gSetting} {nm : Txt} {q : Prop} (hd : DS l) (h : 0 ≤ m_spec_l27At l nm ∧ q) : DS ((([] : List gSetting) ++ (pre' l (m_spec_l27At l nm))) ++ (cut' l (IntKind.wrap .i64 ((m_spec_l27At l nm) + 1)) (l.length : Int))) := hd.drop (at_rng h.1)
theorem chg_cut {l : List gSetting} {nm : Txt} {q : Prop} (hd : DS l) (h : 0 ≤ m_spec_l27At l nm ∧ q) : (0 ≤ m_spec_l27At l nm ∧ m_spec_l27At l nm < l.length) ∧ IntKind.wrap .i64 ((m_spec_l27At l nm) + 1) = m_spec_l27At l nm + 1 ∧ l.length ≤ 6 := by
  have h1 := at_rng h.1
  have h2 := hd.len
  exact ⟨h1, wr64 (by omega), h2⟩
theorem hist_idx {c : List Int} {a sd n : Int} {l : List gVersion} (h : LimA c a n) (hl : (l.length : Int) ≤ 5) (hp : 0 < (m_spec_l00Src_pick (gl00Src.mk c a sd) (IntKind.wrap .i64 ((l.length : Int) + 1))).1) : 0 ≤ IntKind.wrap .i64 ((m_spec_l00Src_pick (gl00Src.mk c a sd) (IntKind.wrap .i64 ((l.length : Int) + 1))).1 - 1) ∧ IntKind.wrap .i64 ((m_spec_l00Src_pick (gl00Src.mk c a sd) (IntKind.wrap .i64 ((l.length : Int) + 1))).1 - 1) < l.length := by
  have e : IntKind.wrap .i64 ((l.length : Int) + 1) = l.length + 1 := wr64 (by omega)
  have hv := (Lim.mk (b := sd) h).num (k := IntKind.wrap .i64 ((l.length : Int) + 1))
  have hv2 := hv.2 (by omega)
  generalize (m_spec_l00Src_pick (gl00Src.mk c a sd) (IntKind.wrap .i64 ((l.length : Int) + 1))).1 = p at hp hv2 ⊢
  rw [wr64 (by omega)]; omega
theorem hist_ds {c : List Int} {a sd n : Int} {l : List gVersion} (h : LimA c a n) (hl : (l.length : Int) ≤ 5) (hd : ∀ v ∈ l, DS v.State) (hp : 0 < (m_spec_l00Src_pick (gl00Src.mk c a sd) (IntKind.wrap .i64 ((l.length : Int) + 1))).1) : DS (at' l (IntKind.wrap .i64 ((m_spec_l00Src_pick (gl00Src.mk c a sd) (IntKind.wrap .i64 ((l.length : Int) + 1))).1 - 1))).State :=
  at_all (Q := fun v => DS v.State) hd (hist_idx h hl hp)
theorem line_step {list : List gVersion} (h : HV list) {n : Int} (h0 : 0 < n) (h1 : n ≤ list.length) : IntKind.wrap .i64 (n - 1) = n - 1 ∧ 0 ≤ (at' list (IntKind.wrap .i64 (n - 1))).Parent ∧ (at' list (IntKind.wrap .i64 (n - 1))).Parent ≤ n - 1 := by
  have hl := h.1
  have e : IntKind.wrap .i64 (n - 1) = n - 1 := wr64 (by omega)
  rw [e]
  exact ⟨rfl, h.par ⟨h0, h1⟩⟩
theorem vcode_imp {list : List gVersion} {a b : Int} (h : m_impl_versionsCode list ([a, b] : List Int) = 0) : HV list ∧ (0 ≤ a ∧ a ≤ list.length) ∧ (0 ≤ b ∧ b ≤ list.length) := by
  simp only [m_impl_versionsCode] at h
  cases h1 : m_impl_ValidHistory list with
  | false => rw [h1] at h; simp at h
  | true =>
    rw [h1] at h
    cases h2 : m_impl_allWithin ([a, b] : List Int) 1 (list.length : Int) with
    | false => rw [h2] at h; simp at h
    | true =>
      have h3 := allWithin_iff.1 h2
      have ha := h3 a (by simp)
      have hb := h3 b (by simp)
      exact ⟨(histI_iff list).1 h1, by omega, by omega⟩
theorem vcode_len {list : List gVersion} {a b : Int} (h : m_impl_versionsCode list ([a, b] : List Int) = 0) : list.length ≤ 32 := (vcode_imp h).1.1
theorem vcode_hv {list : List gVersion} {a b : Int} (h : m_impl_versionsCode list ([a, b] : List Int) = 0) : HV list := (vcode_imp h).1
theorem vcode_ab {list : List gVersion} {a b : Int} (h : m_impl_versionsCode list ([a, b] : List Int) = 0) : (0 ≤ a ∧ a ≤ list.length) ∧ (0 ≤ b ∧ b ≤ list.length) ∧ 0 ≤ m_impl_commonAncestor list a b ∧ m_impl_commonAncestor list a b ≤ a ∧ m_impl_commonAncestor list a b ≤ b :=
  ⟨(vcode_imp h).2.1, (vcode_imp h).2.2, com_rng (vcode_imp h).1 (vcode_imp h).2.1 (vcode_imp h).2.2⟩
theorem lineF_len {list : List gVersion} (h : HV list) : ∀ (k : Nat) (n : Int), 0 ≤ n → n ≤ list.length → ((lineF list k n).length : Int) ≤ n
  | 0, n, h0, _ => by simp [lineF]; exact h0
  | k + 1, n, h0, h1 => by
    rw [lineF]
    by_cases hn : 0 < n
    · rw [if_pos hn]
      have hp := h.par ⟨hn, h1⟩
      have := lineF_len h k _ hp.1 (by omega)
      simp only [List.length_cons]; omega
    · rw [if_neg hn]; simp only [List.length_nil]; omega
theorem line_len {list : List gVersion} (h : HV list) {n : Int} (hn : 0 ≤ n ∧ n ≤ list.length) : ((m_impl_lineOf list n).length : Int) ≤ 32 := by
  have := lineF_len h (n.toNat + 1) n hn.1 hn.2
  have hl := h.1
  rw [line_is h hn]; omega
theorem with_st {list : List gVersion} {n p : Int} {memo : List UInt8} {st : List gSetting} (h : HV list) (hs : st.length ≤ 24) {i : Int} (hi : 0 ≤ i ∧ i < (((m_slices_Clone_impl_Version list) ++ ([gVersion.mk n p memo st] : List gVersion)).length : Int)) : (at' ((m_slices_Clone_impl_Version list) ++ ([gVersion.mk n p memo st] : List gVersion)) i).State.length ≤ 24 := by
  refine at_all (Q := fun v => v.State.length ≤ 24) (fun v hv => ?_) hi
  rw [List.mem_append, List.mem_singleton] at hv
  rcases hv with hv | hv
  · simp only [m_slices_Clone_impl_Version, List.nil_append] at hv
    obtain ⟨j, hj, rfl⟩ := List.getElem_of_mem hv
    have := (h.2 j hj).2.2.2
    rw [at_lt hj] at this
    exact ((state_iff _).1 this).2.2
  · rw [hv]; exact hs

/-! ## Settings in order: a search by halves -/
theorem srch_mid {i j : Int} (h0 : 0 ≤ i) (h1 : i < j) (h2 : j ≤ 1000000) : IntKind.wrap .i64 (Int.fdiv (IntKind.wrap .u64 (IntKind.wrap .i64 (i + j))) (2 ^ min (1 : Int).toNat 64)) = (i + j) / 2 := by
  have e1 : IntKind.wrap .i64 (i + j) = i + j := wr64 (by omega)
  have e2 : IntKind.wrap .u64 (i + j) = i + j := by
    have : IntKind.wrap .u64 (i + j) = (i + j) % 18446744073709551616 := by simp [IntKind.wrap, IntKind.signed, IntKind.bits]
    omega
  have e3 : ((2 : Int) ^ min (1 : Int).toNat 64) = 2 := by decide
  rw [e1, e2, e3, Int.fdiv_eq_ediv_of_nonneg _ (by omega)]
  exact wr64 (by omega)
theorem bless_trans : ∀ {a b c : List UInt8}, Op.bytesLess a b = true → Op.bytesLess b c = true → Op.bytesLess a c = true
  | [], [], _, h, _ => by simp [Op.bytesLess] at h
  | [], _ :: _, [], _, h => by simp [Op.bytesLess] at h
  | [], _ :: _, _ :: _, _, _ => rfl
  | _ :: _, [], _, h, _ => by simp [Op.bytesLess] at h
  | _ :: _, _ :: _, [], _, h => by simp [Op.bytesLess] at h
  | x :: a, y :: b, z :: c, h1, h2 => by
    have ih := bless_trans (a := a) (b := b) (c := c)
    simp only [Op.bytesLess] at h1 h2 ⊢
    by_cases e1 : x < y
    · by_cases e2 : y < z
      · have := UInt8.lt_trans e1 e2; simp [this]
      · have e3 : y = z := by
          simp only [e2, decide_false, Bool.false_or, Bool.and_eq_true, beq_iff_eq] at h2
          exact h2.1
        subst e3; simp [e1]
    · have e3 : x = y := by
        simp only [e1, decide_false, Bool.false_or, Bool.and_eq_true, beq_iff_eq] at h1
        exact h1.1
      subst e3
      by_cases e2 : x < z
      · simp [e2]
      · simp only [e1, e2, decide_false, Bool.false_or, Bool.and_eq_true, beq_iff_eq] at h1 h2 ⊢
        exact ⟨h2.1, ih h1.2 h2.2⟩
theorem bless_irrefl : ∀ (a : List UInt8), Op.bytesLess a a = false
  | [] => rfl
  | x :: a => by
    simp only [Op.bytesLess, bless_irrefl a]
    simp
theorem del_row {α : Type} {s : List α} {i j : Int} (h : 0 ≤ i ∧ i ≤ j ∧ j ≤ s.length) : (cpy s (pre' s i).length (cut' s j (s.length : Int))).length = s.length := by
  simp only [cpy, pre', cut', List.length_append, List.length_take, List.length_drop]; omega
theorem cpy_tail3 {α : Type} {s A : List α} {o : Nat} {z : α} (h : A.length = s.length) : (cpy A o (List.replicate ((s.length : Int).toNat - o) z)).length = A.length := by
  simp only [cpy, List.length_append, List.length_take, List.length_drop, List.length_replicate]; omega
theorem deleteS_is {s : List gSetting} {i j : Int} (h : 0 ≤ i ∧ i < j ∧ j ≤ s.length) : (m_slices_Delete_impl_Setting s i j).1 = s.take i.toNat ++ s.drop j.toNat := by
  have hij : (i == j) = false := by simp; omega
  simp only [m_slices_Delete_impl_Setting, hij, Bool.cond_false]
  have e1 : (pre' s i).length = i.toNat := by simp only [pre', List.length_take]; omega
  have e2 : cut' s j (s.length : Int) = s.drop j.toNat := by
    simp only [cut']; rw [List.take_of_length_le (by rw [List.length_drop]; omega)]
  rw [e1, e2]
  have e3 : (s.drop j.toNat).length = s.length - j.toNat := List.length_drop
  have e4 : (cpy s i.toNat (s.drop j.toNat)).take (i.toNat + (s.length - j.toNat)) = s.take i.toNat ++ s.drop j.toNat := by
    simp only [cpy]
    rw [List.take_append_of_le_length (by rw [List.length_append, List.length_take, e3]; omega), List.take_of_length_le (by rw [List.length_append, List.length_take, e3]; omega)]
  have e5 : (pre' (cpy s i.toNat (s.drop j.toNat)) (((i.toNat : Nat) : Int) + (((s.drop j.toNat).length : Nat) : Int))).length = i.toNat + (s.length - j.toNat) := by
    simp only [pre', List.length_take, cpy, List.length_append, List.length_drop]; omega
  rw [e5]
  simp only [pre', e3]
  rw [show (((i.toNat : Nat) : Int) + (((s.length - j.toNat) : Nat) : Int)).toNat = i.toNat + (s.length - j.toNat) by omega, show ((((i.toNat + (s.length - j.toNat)) : Nat) : Int)).toNat = i.toNat + (s.length - j.toNat) by omega]
  have e6 : ∀ (A Z : List gSetting) (n : Nat), n ≤ A.length → (cpy A n Z).take n = A.take n := fun A Z n hn => by
    simp only [cpy]
    rw [List.append_assoc, List.take_append_of_le_length (by rw [List.length_take]; omega), List.take_take, Nat.min_self]
  rw [e6 _ _ _ (by simp only [cpy, List.length_append, List.length_take, List.length_drop]; omega), e4]
theorem insertS_is {s : List gSetting} {i : Int} {e : gSetting} (h : 0 ≤ i ∧ i ≤ s.length) : (m_slices_Insert_impl_Setting s i ([e] : List gSetting)).1 = ins s i [e] := by
  simp only [m_slices_Insert_impl_Setting]
  by_cases hi : i = (s.length : Int)
  · subst hi
    simp [ins]
  · have hf : (i == (s.length : Int)) = false := by simpa using hi
    rw [hf]
    simp
/-- where the search ends, whatever the order -/
theorem bs_rng {x : List gSetting} (hx : x.length ≤ 1000000) {t : gSetting} {cmp : gSetting → gSetting → Int} :
    0 ≤ (m_slices_BinarySearchFunc_impl_Setting x t cmp).1 ∧ (m_slices_BinarySearchFunc_impl_Setting x t cmp).1 ≤ x.length ∧ ((m_slices_BinarySearchFunc_impl_Setting x t cmp).2 = true → (m_slices_BinarySearchFunc_impl_Setting x t cmp).1 < x.length) := by
  simp only [m_slices_BinarySearchFunc_impl_Setting]
  refine LOOP_post (fun (y : Int × Int) => 0 ≤ y.1 ∧ y.1 ≤ y.2 ∧ y.2 ≤ x.length) (fun y => (y.2 - y.1).toNat) (fun _ (r : Int × Bool) => 0 ≤ r.1 ∧ r.1 ≤ x.length ∧ (r.2 = true → r.1 < x.length)) (fun rec y hI ih => ?_) _ _ ⟨by simp, by simp, by simp⟩ (by simp only; omega)
  obtain ⟨i, j⟩ := y
  obtain ⟨h1, h2, h3⟩ := hI
  simp only at h1 h2 h3
  simp only [m_slices_BinarySearchFunc_impl_Setting_b1]
  by_cases hij : i < j
  · have hm := srch_mid h1 hij (by omega)
    simp only [hij, decide_true, Bool.cond_true, hm]
    rw [wr64 (n := (i + j) / 2 + 1) (by omega)]
    cases (decide (cmp (at' x ((i + j) / 2)) t < 0)) with
    | true => exact ih _ ⟨by simp only; omega, by simp only; omega, by simp only; omega⟩ (by simp only; omega)
    | false => exact ih _ ⟨by simp only; omega, by simp only; omega, by simp only; omega⟩ (by simp only; omega)
  · simp only [hij, decide_false, Bool.cond_false]
    refine ⟨h1, by omega, fun h => ?_⟩
    simp only [Bool.and_eq_true, decide_eq_true_eq] at h
    exact h.1
theorem at27_is (L : List gSetting) (n : List UInt8) : (m_spec_l27At L n = -1 ∧ ∀ j, 0 ≤ j → j < (L.length : Int) → ((at' L j).Name == n) = false) ∨ ((0 ≤ m_spec_l27At L n ∧ m_spec_l27At L n < L.length) ∧ ((at' L (m_spec_l27At L n)).Name == n) = true) := by
  simp only [m_spec_l27At]
  refine LOOP_post (fun (x : Int) => (0 ≤ x ∧ x ≤ L.length) ∧ ∀ q, 0 ≤ q → q < x → ((at' L q).Name == n) = false) (fun x => ((L.length : Int) - x).toNat) (fun _ (r : Int) => (r = -1 ∧ ∀ j, 0 ≤ j → j < (L.length : Int) → ((at' L j).Name == n) = false) ∨ ((0 ≤ r ∧ r < L.length) ∧ ((at' L r).Name == n) = true)) (fun rec x hI ih => ?_) _ _ ⟨⟨by omega, by omega⟩, fun q h1 h2 => by omega⟩ (by omega)
  obtain ⟨⟨h0, h1⟩, h2⟩ := hI
  simp only [m_spec_l27At_b1]
  by_cases hi : x < (L.length : Int)
  · simp only [hi, decide_true, Bool.cond_true, strB]
    cases hq : ((at' L x).Name == n) with
    | true => exact .inr ⟨⟨h0, hi⟩, hq⟩
    | false =>
      refine ih _ ⟨⟨by omega, by omega⟩, fun q g1 g2 => ?_⟩ (by omega)
      by_cases e : q = x
      · subst e; exact hq
      · exact h2 q g1 (by omega)
  · simp only [hi, decide_false, Bool.cond_false]
    exact .inl ⟨by first | rfl | trivial, fun j g1 g2 => h2 j g1 (by omega)⟩
theorem set27_len (L : List gSetting) (e : gSetting) : (m_spec_l27Set L e).length ≤ L.length + 1 := by
  simp only [m_spec_l27Set]
  refine LOOP_post (fun (x : (List gSetting) × Bool × Int) => 0 ≤ x.2.2 ∧ x.2.2 ≤ L.length ∧ (x.1.length : Int) ≤ x.2.2 + (if x.2.1 then 1 else 0)) (fun x => ((L.length : Int) - x.2.2).toNat) (fun _ (r : List gSetting) => r.length ≤ L.length + 1) (fun rec x hI ih => ?_) _ _ ⟨by simp, by simp, by simp⟩ (by simp only; omega)
  obtain ⟨o, b, i⟩ := x
  obtain ⟨h0, h1, h2⟩ := hI
  simp only at h0 h1 h2
  simp only [m_spec_l27Set_b1, JN]
  by_cases hi : i < (L.length : Int)
  · simp only [hi, decide_true, Bool.cond_true]
    have key : ∀ (o' : List gSetting) (b' : Bool), (o'.length : Int) ≤ i + (if b' then 1 else 0) → (bif strB .neq (at' L i).Name e.Name then rec (o' ++ ([at' L i] : List gSetting), b', i + 1) else rec (o', b', i + 1)).length ≤ L.length + 1 := fun o' b' ho => by
      cases strB .neq (at' L i).Name e.Name with
      | true => exact ih _ ⟨by simp only; omega, by simp only; omega, by simp only [List.length_append, List.length_cons, List.length_nil]; omega⟩ (by simp only; omega)
      | false => exact ih _ ⟨by simp only; omega, by simp only; omega, by simp only; omega⟩ (by simp only; omega)
    cases b with
    | true => simp only [Bool.not_true, Bool.false_and, Bool.cond_false]; exact key _ _ h2
    | false =>
      cases hg : strB .geq (at' L i).Name e.Name with
      | true => simp only [Bool.not_false, Bool.true_and, Bool.cond_true]; exact key _ _ (by simp only [List.length_append, List.length_cons, List.length_nil, if_true]; simp at h2; omega)
      | false => simp only [Bool.not_false, Bool.true_and, Bool.cond_false]; exact key _ _ h2
  · simp only [hi, decide_false, Bool.cond_false]
    cases b with
    | true => simp only [Bool.not_true, Bool.cond_false]; simp at h2; omega
    | false => simp only [Bool.not_false, Bool.cond_true, List.length_append, List.length_cons, List.length_nil]; simp at h2; omega
theorem StIn_len {list : List gSetting} (h : StIn list) : list.length ≤ 24 := h.1

/-! ## ApplyChanges: the two laws -/
theorem strB_lss (a b : List UInt8) : strB .lss a b = Op.bytesLess a b := rfl
theorem strB_geq' (a b : List UInt8) : strB .geq a b = !Op.bytesLess a b := rfl
theorem strB_neq' (a b : List UInt8) : strB .neq a b = !(a == b) := rfl
theorem isNaN_str (x : List UInt8) : m_cmp_isNaN_string x = false := by simp [m_cmp_isNaN_string, strB]
theorem cmp_less (a b : gSetting) : decide (m_impl_compareSettings a b < 0) = Op.bytesLess a.Name b.Name := by
  simp only [m_impl_compareSettings, m_cmp_Compare_string, isNaN_str, Bool.cond_false, strB_lss]
  cases Op.bytesLess a.Name b.Name with
  | true => rfl
  | false => cases strB .gtr a.Name b.Name <;> rfl
theorem cmp_same (a b : gSetting) : (m_impl_compareSettings a b == 0) = (a.Name == b.Name) := by
  simp only [m_impl_compareSettings, m_cmp_Compare_string, isNaN_str, Bool.cond_false, strB_lss]
  cases h : Op.bytesLess a.Name b.Name with
  | true =>
    have : (a.Name == b.Name) = false := by
      cases he : (a.Name == b.Name) with
      | false => rfl
      | true => rw [beq_iff_eq] at he; rw [he, bless_irrefl] at h; exact absurd h (by simp)
    rw [this]; rfl
  | false =>
    have : strB .gtr a.Name b.Name = !(a.Name == b.Name) := by simp [strB, h]
    rw [this]
    cases (a.Name == b.Name) <;> rfl
/-- names that rise -/
def Up (L : List gSetting) : Prop := L.Pairwise (fun a b => Op.bytesLess a.Name b.Name = true)
theorem Up.at {L : List gSetting} (h : Up L) {i j : Int} (hi : 0 ≤ i) (hij : i < j) (hj : j < L.length) : Op.bytesLess (at' L i).Name (at' L j).Name = true := by
  have e1 : at' L i = L[i.toNat]'(by omega) := by have := at_lt (xs := L) (j := i.toNat) (by omega); rwa [Int.toNat_of_nonneg hi] at this
  have e2 : at' L j = L[j.toNat]'(by omega) := by have := at_lt (xs := L) (j := j.toNat) (by omega); rwa [Int.toNat_of_nonneg (by omega)] at this
  rw [e1, e2]
  exact List.pairwise_iff_getElem.1 h _ _ _ _ (by omega)
theorem bs_is {x : List gSetting} (hx : x.length ≤ 1000000) (hU : Up x) (t : gSetting) :
    ∃ i : Nat, i ≤ x.length ∧ (∀ j : Int, 0 ≤ j → j < i → Op.bytesLess (at' x j).Name t.Name = true) ∧ (∀ j : Int, i ≤ j → j < x.length → Op.bytesLess (at' x j).Name t.Name = false) ∧
      m_slices_BinarySearchFunc_impl_Setting x t (fun (a0 : gSetting) (a1 : gSetting) => m_impl_compareSettings a0 a1) = ((i : Int), decide ((i : Int) < x.length) && ((at' x i).Name == t.Name)) := by
  have hf : ∀ i j, 0 ≤ i → i ≤ j → j < (x.length : Int) → Op.bytesLess (at' x j).Name t.Name = true → Op.bytesLess (at' x i).Name t.Name = true := fun i j h0 h1 h2 h3 => by
    rcases Int.lt_or_eq_of_le h1 with h | h
    · exact bless_trans (hU.at h0 h h2) h3
    · subst h; exact h3
  suffices H : ∃ i : Int, 0 ≤ i ∧ i ≤ x.length ∧ (∀ j : Int, 0 ≤ j → j < i → Op.bytesLess (at' x j).Name t.Name = true) ∧ (∀ j : Int, i ≤ j → j < x.length → Op.bytesLess (at' x j).Name t.Name = false) ∧
      m_slices_BinarySearchFunc_impl_Setting x t (fun (a0 : gSetting) (a1 : gSetting) => m_impl_compareSettings a0 a1) = (i, decide (i < (x.length : Int)) && ((at' x i).Name == t.Name)) by
    obtain ⟨i, h0, h1, h2, h3, h4⟩ := H
    refine ⟨i.toNat, by omega, fun j g1 g2 => h2 j g1 (by omega), fun j g1 g2 => h3 j (by omega) g2, ?_⟩
    rw [Int.toNat_of_nonneg h0]; exact h4
  simp only [m_slices_BinarySearchFunc_impl_Setting]
  refine LOOP_post (fun (y : Int × Int) => 0 ≤ y.1 ∧ y.1 ≤ y.2 ∧ y.2 ≤ x.length ∧ (∀ q, 0 ≤ q → q < y.1 → Op.bytesLess (at' x q).Name t.Name = true) ∧ (∀ q, y.2 ≤ q → q < x.length → Op.bytesLess (at' x q).Name t.Name = false)) (fun y => (y.2 - y.1).toNat)
    (fun _ (r : Int × Bool) => ∃ i : Int, 0 ≤ i ∧ i ≤ x.length ∧ (∀ j : Int, 0 ≤ j → j < i → Op.bytesLess (at' x j).Name t.Name = true) ∧ (∀ j : Int, i ≤ j → j < x.length → Op.bytesLess (at' x j).Name t.Name = false) ∧ r = (i, decide (i < (x.length : Int)) && ((at' x i).Name == t.Name)))
    (fun rec y hI ih => ?_) _ _ ⟨by simp, by simp, by simp, fun q h1 h2 => by dsimp only at h2; omega, fun q h1 h2 => by dsimp only at h1; omega⟩ (by simp only; omega)
  obtain ⟨i, j⟩ := y
  obtain ⟨h1, h2, h3, h4, h5⟩ := hI
  simp only at h1 h2 h3 h4 h5
  simp only [m_slices_BinarySearchFunc_impl_Setting_b1]
  by_cases hij : i < j
  · have hm := srch_mid h1 hij (by omega)
    simp only [hij, decide_true, Bool.cond_true, hm, cmp_less]
    rw [wr64 (n := (i + j) / 2 + 1) (by omega)]
    cases hq : Op.bytesLess (at' x ((i + j) / 2)).Name t.Name with
    | true =>
      simp only [Bool.cond_true]
      refine ih _ ⟨by simp only; omega, by simp only; omega, by simp only; omega, fun q g1 g2 => ?_, h5⟩ (by simp only; omega)
      simp only at g2
      exact hf q ((i + j) / 2) g1 (by omega) (by omega) hq
    | false =>
      simp only [Bool.cond_false]
      refine ih _ ⟨by simp only; omega, by simp only; omega, by simp only; omega, h4, fun q g1 g2 => ?_⟩ (by simp only; omega)
      simp only at g1
      cases hq' : Op.bytesLess (at' x q).Name t.Name with
      | false => rfl
      | true => have := hf ((i + j) / 2) q (by omega) g1 g2 hq'; rw [hq] at this; exact absurd this (by simp)
  · simp only [hij, decide_false, Bool.cond_false, cmp_same]
    have e : i = j := by omega
    subst e
    exact ⟨i, h1, h3, h4, h5, rfl⟩
/-- the place behind: past the place of the same name -/
def nx (b : Bool) (i : Nat) : Nat := if b then i + 1 else i
theorem same_at {L : List gSetting} (hU : Up L) {e : gSetting} {i : Nat} {F : Bool} (h1 : ∀ j : Int, 0 ≤ j → j < i → Op.bytesLess (at' L j).Name e.Name = true) (h2 : ∀ j : Int, i ≤ j → j < L.length → Op.bytesLess (at' L j).Name e.Name = false)
    (hF : (decide ((i : Int) < L.length) && ((at' L i).Name == e.Name)) = F) : ∀ j : Int, 0 ≤ j → j < L.length → ((at' L j).Name == e.Name) = (decide (j = i) && F) := fun j g0 g1 => by
  by_cases hj : j = i
  · subst hj
    simp only [decide_true, Bool.true_and, ← hF, g1]
  · simp only [hj, decide_false, Bool.false_and]
    cases hq : ((at' L j).Name == e.Name) with
    | false => rfl
    | true =>
      rw [beq_iff_eq] at hq
      by_cases hlt : j < i
      · have := h1 j g0 hlt; rw [hq, bless_irrefl] at this; exact absurd this (by simp)
      · have a1 := hU.at (i := (i : Int)) (j := j) (by omega) (by omega) g1
        rw [hq, h2 i (by omega) (by omega)] at a1; exact absurd a1 (by simp)
theorem set27_is {L : List gSetting} (hU : Up L) (e : gSetting) (i : Nat) (hi : i ≤ L.length) (h1 : ∀ j : Int, 0 ≤ j → j < i → Op.bytesLess (at' L j).Name e.Name = true) (h2 : ∀ j : Int, i ≤ j → j < L.length → Op.bytesLess (at' L j).Name e.Name = false) :
    m_spec_l27Set L e = L.take i ++ [e] ++ L.drop (nx (decide ((i : Int) < L.length) && ((at' L i).Name == e.Name)) i) := by
  generalize hF : (decide ((i : Int) < L.length) && ((at' L i).Name == e.Name)) = F
  have hne := same_at hU h1 h2 hF
  have hFi : F = true → i < L.length := fun h => by rw [← hF] at h; simp only [Bool.and_eq_true, decide_eq_true_eq] at h; omega
  simp only [m_spec_l27Set]
  refine LOOP_is (fun (x : (List gSetting) × Bool × Int) => ∃ k : Nat, k ≤ L.length ∧ x.2.2 = k ∧ x.2.1 = decide (i < k) ∧ x.1 = if k ≤ i then L.take k else L.take i ++ [e] ++ (L.take k).drop (nx F i)) (fun x => ((L.length : Int) - x.2.2).toNat) (fun _ => L.take i ++ [e] ++ L.drop (nx F i)) (fun rec x hI ih => ?_) ⟨0, by omega, rfl, by simp, by simp⟩ (by simp only; omega)
  obtain ⟨o, b, q⟩ := x
  obtain ⟨k, hk, hq, hb, ho⟩ := hI
  simp only at hq hb ho
  subst hq; subst hb; subst ho
  simp only [m_spec_l27Set_b1, JN, strB_geq', strB_neq']
  by_cases hkl : k < L.length
  · have hkl' : ((k : Nat) : Int) < (L.length : Int) := by omega
    simp only [hkl', decide_true, Bool.cond_true]
    have hat : at' L (k : Int) = L[k] := at_lt hkl
    have htk : L.take (k + 1) = L.take k ++ [L[k]] := by rw [List.take_succ_eq_append_getElem hkl]
    rw [hne k (by omega) hkl', hat]
    by_cases hki : k < i
    · have hl := h1 k (by omega) (by omega)
      rw [hat] at hl
      have e1 : ¬ i < k := by omega
      have e2 : ¬ ((k : Nat) : Int) = (i : Int) := by omega
      have e3 : k ≤ i := by omega
      simp only [e1, e2, e3, hl, decide_false, Bool.not_false, Bool.true_and, Bool.not_true, Bool.cond_false, Bool.false_and, Bool.cond_true, if_true]
      refine ih _ ⟨k + 1, by omega, by simp, by simp; omega, ?_⟩ (by simp only; omega)
      rw [if_pos (by omega), htk]
    · by_cases hke : k = i
      · subst hke
        have hl := h2 k (by omega) (by omega)
        rw [hat] at hl
        simp only [Nat.lt_irrefl, decide_false, Bool.not_false, Bool.true_and, hl, Bool.cond_true, decide_true, Nat.le_refl, if_true]
        cases F with
        | true =>
          simp only [Bool.not_true, Bool.cond_false]
          refine ih _ ⟨k + 1, by omega, by simp, by simp, ?_⟩ (by simp only; omega)
          rw [if_neg (by omega)]
          have : (L.take (k + 1)).drop (nx true k) = [] := List.drop_eq_nil_of_le (by rw [List.length_take]; simp only [nx, if_true]; omega)
          rw [this, List.append_nil]
        | false =>
          simp only [Bool.not_false, Bool.cond_true]
          refine ih _ ⟨k + 1, by omega, by simp, by simp, ?_⟩ (by simp only; omega)
          rw [if_neg (by omega)]
          have : (L.take (k + 1)).drop (nx false k) = [L[k]] := by
            have hl' : (L.take k).length = k := by rw [List.length_take]; omega
            rw [htk]; simp only [nx, Bool.false_eq_true, if_false]
            rw [List.drop_left' hl']
          rw [this]
      · have e1 : i < k := by omega
        have e2 : ¬ ((k : Nat) : Int) = (i : Int) := by omega
        have e3 : ¬ k ≤ i := by omega
        simp only [e1, e2, e3, decide_true, decide_false, Bool.not_true, Bool.false_and, Bool.cond_false, Bool.not_false, Bool.cond_true, if_false]
        refine ih _ ⟨k + 1, by omega, by simp, by simp; omega, ?_⟩ (by simp only; omega)
        rw [if_neg (by omega), htk, List.drop_append_of_le_length (by rw [List.length_take]; unfold nx; split <;> omega)]
        simp only [List.append_assoc]
  · have hkl' : ¬ ((k : Nat) : Int) < (L.length : Int) := by omega
    have hkn : k = L.length := by omega
    subst hkn
    simp only [hkl', decide_false, Bool.cond_false, List.take_length]
    by_cases hil : i < L.length
    · have e3 : ¬ L.length ≤ i := by omega
      simp only [hil, e3, decide_true, Bool.not_true, Bool.cond_false, if_false]
    · have hin : i = L.length := by omega
      have hFf : F = false := by cases hF' : F with
        | false => rfl
        | true => exact absurd (hFi hF') (by omega)
      subst hin; subst hFf
      simp [nx]

theorem nx_le (F : Bool) (i : Nat) : i ≤ nx F i := by unfold nx; split <;> omega
theorem at_of {L : List gSetting} {j : Nat} (h : j < L.length) : at' L (j : Int) = L[j] := at_lt h
theorem up_mid {L : List gSetting} (hU : Up L) {e : gSetting} {i : Nat} {F : Bool} (h1 : ∀ j : Int, 0 ≤ j → j < i → Op.bytesLess (at' L j).Name e.Name = true) (h3 : ∀ j : Int, (nx F i : Nat) ≤ j → j < L.length → Op.bytesLess e.Name (at' L j).Name = true) : Up (L.take i ++ [e] ++ L.drop (nx F i)) := by
  have ha : ∀ a ∈ L.take i, Op.bytesLess a.Name e.Name = true := fun a ha => by
    obtain ⟨j, hj, rfl⟩ := List.getElem_of_mem ha
    have hj' : j < i ∧ j < L.length := by rw [List.length_take] at hj; omega
    have := h1 j (by omega) (by omega)
    rw [at_of hj'.2] at this
    rw [List.getElem_take]; exact this
  have hb : ∀ b ∈ L.drop (nx F i), Op.bytesLess e.Name b.Name = true := fun b hb => by
    obtain ⟨j, hj, rfl⟩ := List.getElem_of_mem hb
    have hj' : nx F i + j < L.length := by rw [List.length_drop] at hj; omega
    have := h3 ((nx F i + j : Nat) : Int) (by omega) (by omega)
    rw [at_of hj'] at this
    rw [List.getElem_drop]; exact this
  unfold Up
  rw [List.append_assoc, List.pairwise_append]
  refine ⟨List.Pairwise.sublist (List.take_sublist _ _) hU, ?_, fun a h b hb' => ?_⟩
  · rw [List.singleton_append, List.pairwise_cons]
    exact ⟨hb, List.Pairwise.sublist (List.drop_sublist _ _) hU⟩
  · rw [List.singleton_append, List.mem_cons] at hb'
    rcases hb' with rfl | h'
    · exact ha a h
    · exact bless_trans (ha a h) (hb b h')
theorem up_cut {L : List gSetting} (hU : Up L) (i j : Nat) (hij : i ≤ j) : Up (L.take i ++ L.drop j) := by
  refine List.Pairwise.sublist ?_ hU
  conv => rhs; rw [← List.take_append_drop i L]
  refine List.Sublist.append (List.Sublist.refl _) ?_
  rw [show j = i + (j - i) by omega, ← List.drop_drop]
  exact List.drop_sublist _ _
theorem at27_at {L : List gSetting} (hU : Up L) {e : gSetting} {i : Nat} {F : Bool} (hi : i ≤ L.length) (h1 : ∀ j : Int, 0 ≤ j → j < i → Op.bytesLess (at' L j).Name e.Name = true) (h2 : ∀ j : Int, i ≤ j → j < L.length → Op.bytesLess (at' L j).Name e.Name = false)
    (hF : (decide ((i : Int) < L.length) && ((at' L i).Name == e.Name)) = F) : m_spec_l27At L e.Name = if F then (i : Int) else -1 := by
  have hne := same_at hU h1 h2 hF
  rcases at27_is L e.Name with ⟨h, hall⟩ | ⟨⟨g0, g1⟩, hh⟩
  · cases F with
    | false => rw [h]; rfl
    | true =>
      simp only [Bool.and_eq_true, decide_eq_true_eq] at hF
      have := hall i (by omega) hF.1
      rw [hF.2] at this; exact absurd this (by simp)
  · rw [hne _ g0 g1, Bool.and_eq_true, decide_eq_true_eq] at hh
    rw [hh.2, if_pos rfl]; exact hh.1
theorem state_up {L : List gSetting} (h : m_spec_l27State L = true) : Up L ∧ L.length ≤ 24 := by
  obtain ⟨hs, hl⟩ := (state_all L).1 h
  have hst : ∀ j : Nat, j + 1 < L.length → Op.bytesLess (at' L (j : Int)).Name (at' L ((j + 1 : Nat) : Int)).Name = true := fun j hj => by
    have := hs (j + 1) (by omega) (by omega)
    simp only [Bool.or_eq_false_iff, Bool.not_eq_false', Bool.and_eq_false_iff, decide_eq_false_iff_not, strB_geq'] at this
    rcases this.2 with h' | h'
    · omega
    · rw [show (((j + 1 : Nat) : Int) - 1) = (j : Int) by omega] at h'; exact h'
  have hup : ∀ (d j : Nat), ∀ h : j + d + 1 < L.length, Op.bytesLess (at' L (j : Int)).Name (at' L ((j + d + 1 : Nat) : Int)).Name = true := fun d => by
    induction d with
    | zero => intro j hj; exact hst j hj
    | succ d ih => intro j hj; exact bless_trans (ih j (by omega)) (hst (j + d + 1) hj)
  refine ⟨List.pairwise_iff_getElem.2 fun i j hi hj hij => ?_, hl⟩
  have := hup (j - i - 1) i (by omega)
  rw [show i + (j - i - 1) + 1 = j by omega, at_of hi, at_of hj] at this
  exact this
theorem put_is {L : List gSetting} {i : Nat} {e : gSetting} (h : i < L.length) : put' L (i : Int) e = L.take i ++ [e] ++ L.drop (i + 1) := by
  simp only [put', Int.toNat_natCast]
  rw [List.set_eq_take_append_cons_drop, if_pos h, List.append_assoc, List.singleton_append]
theorem idxC_is (s : List gChange) (p : gChange → Bool) : (m_slices_IndexFunc_impl_Change s p = -1 ∧ ∀ j, 0 ≤ j → j < (s.length : Int) → p (at' s j) = false) ∨ ((0 ≤ m_slices_IndexFunc_impl_Change s p ∧ m_slices_IndexFunc_impl_Change s p < s.length) ∧ p (at' s (m_slices_IndexFunc_impl_Change s p)) = true) := by
  simp only [m_slices_IndexFunc_impl_Change]
  refine LOOP_post (fun (x : Int) => (0 ≤ x ∧ x ≤ s.length) ∧ ∀ q, 0 ≤ q → q < x → p (at' s q) = false) (fun x => ((s.length : Int) - x).toNat) (fun _ (r : Int) => (r = -1 ∧ ∀ j, 0 ≤ j → j < (s.length : Int) → p (at' s j) = false) ∨ ((0 ≤ r ∧ r < s.length) ∧ p (at' s r) = true)) (fun rec x hI ih => ?_) _ _ ⟨⟨by omega, by omega⟩, fun q h1 h2 => by omega⟩ (by omega)
  obtain ⟨⟨h0, h1⟩, h2⟩ := hI
  simp only [m_slices_IndexFunc_impl_Change_b1]
  by_cases hi : x < (s.length : Int)
  · simp only [hi, decide_true, Bool.cond_true]
    cases hq : p (at' s x) with
    | true => exact .inr ⟨⟨h0, hi⟩, hq⟩
    | false =>
      refine ih _ ⟨⟨by omega, by omega⟩, fun q g1 g2 => ?_⟩ (by omega)
      by_cases e : q = x
      · subst e; exact hq
      · exact h2 q g1 (by omega)
  · simp only [hi, decide_false, Bool.cond_false]
    exact .inl ⟨by first | rfl | trivial, fun j g1 g2 => h2 j g1 (by omega)⟩
theorem contains_is (s : List gChange) (p : gChange → Bool) : m_slices_ContainsFunc_impl_Change s p = s.any p := by
  simp only [m_slices_ContainsFunc_impl_Change]
  rcases idxC_is s p with ⟨h, hall⟩ | ⟨⟨g0, g1⟩, hp⟩
  · rw [h]
    have : s.any p = false := by
      rw [List.any_eq_false]
      intro x hx
      obtain ⟨j, hj, rfl⟩ := List.getElem_of_mem hx
      have := hall j (by omega) (by omega)
      rw [at_lt hj] at this
      rw [this]; simp
    rw [this]; rfl
  · rw [decide_eq_true g0]
    symm
    rw [List.any_eq_true]
    exact ⟨_, at_mem ⟨g0, g1⟩, hp⟩

/-! ## Changes from one state to another -/
theorem mem_at {L : List gSetting} {y : gSetting} (h : y ∈ L) : ∃ j : Nat, ∃ hj : j < L.length, L[j] = y := by
  obtain ⟨j, hj, e⟩ := List.getElem_of_mem h
  exact ⟨j, hj, e⟩
theorem set_mem {L : List gSetting} (hl : L.length ≤ 1000) (hU : Up L) (e : gSetting) : Up (m_spec_l27Set L e) ∧ ∀ y, y ∈ m_spec_l27Set L e ↔ y = e ∨ (y ∈ L ∧ y.Name ≠ e.Name) := by
  obtain ⟨i, hi, h1, h2, _⟩ := bs_is (x := L) (by omega) hU e
  have hset := set27_is hU e i hi h1 h2
  generalize hF : (decide ((i : Int) < L.length) && ((at' L i).Name == e.Name)) = F at hset
  have hne := same_at hU h1 h2 hF
  have hup : Up (L.take i ++ [e] ++ L.drop (nx F i)) := up_mid hU h1 fun j a b => by
    have hij := nx_le F i
    have h3 := hne j (by omega) b
    have h4 : (decide (j = (i : Int)) && F) = false := by
      cases hF' : F with
      | false => simp
      | true => subst hF'; simp only [nx, if_true] at a; simp; omega
    have h5 := bytes_tri (at' L j).Name e.Name
    rw [h2 j (by omega) b, h3, h4] at h5
    simpa using h5
  rw [hset]
  refine ⟨hup, fun y => ?_⟩
  have hy : ∀ j : Nat, ∀ hj : j < L.length, (L[j].Name = e.Name ↔ (j = i ∧ F = true)) := fun j hj => by
    have := hne j (by omega) (by omega)
    rw [at_of hj] at this
    rw [← beq_iff_eq, this, Bool.and_eq_true, decide_eq_true_eq]
    exact ⟨fun ⟨a, b⟩ => ⟨by omega, b⟩, fun ⟨a, b⟩ => ⟨by omega, b⟩⟩
  simp only [List.mem_append, List.mem_singleton]
  constructor
  · rintro ((h | h) | h)
    · right
      obtain ⟨j, hj, rfl⟩ := List.getElem_of_mem h
      have hj' : j < i ∧ j < L.length := by rw [List.length_take] at hj; omega
      rw [List.getElem_take]
      exact ⟨List.getElem_mem _, fun he => by have := (hy j hj'.2).1 he; omega⟩
    · exact .inl h
    · right
      obtain ⟨j, hj, rfl⟩ := List.getElem_of_mem h
      have hj' : nx F i + j < L.length := by rw [List.length_drop] at hj; omega
      rw [List.getElem_drop]
      refine ⟨List.getElem_mem _, fun he => ?_⟩
      have := (hy _ hj').1 he
      rw [this.2] at this
      simp only [nx, if_true] at this
      omega
  · rintro (h | ⟨h, hn⟩)
    · exact .inl (.inr h)
    · obtain ⟨j, hj, rfl⟩ := mem_at h
      by_cases hji : j < i
      · exact .inl (.inl (List.mem_take_iff_getElem.2 ⟨j, by omega, rfl⟩))
      · right
        have hnx : nx F i ≤ j := by
          cases hF' : F with
          | false => simp only [nx, Bool.false_eq_true, if_false]; omega
          | true =>
            simp only [nx, if_true]
            have : ¬ j = i := fun e' => hn ((hy j hj).2 ⟨e', hF'⟩)
            omega
        exact List.mem_drop_iff_getElem.2 ⟨j - nx F i, by omega, by simp only [show nx F i + (j - nx F i) = j by omega]⟩
/-- changes made one by one, by the reference's rule -/
def runC : List gChange → List gSetting → (List gSetting) × Int
  | [], L => (L, 0)
  | c :: r, L => bif c.Kind == 1 then (bif decide (24 < ((m_spec_l27Set L c.Setting).length : Int)) then (([] : List gSetting), 5) else runC r (m_spec_l27Set L c.Setting))
    else bif decide (m_spec_l27At L c.Setting.Name < 0) then (([] : List gSetting), 3)
    else bif !((strB .eql (at' L (m_spec_l27At L c.Setting.Name)).Name c.Setting.Name) && (((at' L (m_spec_l27At L c.Setting.Name)).Value == c.Setting.Value) && true)) then (([] : List gSetting), 6)
    else runC r ((([] : List gSetting) ++ (pre' L (m_spec_l27At L c.Setting.Name))) ++ (cut' L (IntKind.wrap .i64 ((m_spec_l27At L c.Setting.Name) + 1)) (L.length : Int)))
theorem at27_mem {L : List gSetting} (hU : Up L) {x : gSetting} (hx : x ∈ L) : ∃ i : Nat, ∃ hi : i < L.length, L[i] = x ∧ m_spec_l27At L x.Name = i := by
  obtain ⟨i, hi, e⟩ := mem_at hx
  refine ⟨i, hi, e, ?_⟩
  rcases at27_is L x.Name with ⟨_, h⟩ | ⟨⟨h0, h1⟩, h2⟩
  · have := h i (by omega) (by omega)
    rw [at_of hi, e] at this; simp at this
  · generalize m_spec_l27At L x.Name = r at h0 h1 h2
    rw [beq_iff_eq] at h2
    have hxi : (at' L (i : Int)).Name = x.Name := by rw [at_of hi, e]
    rcases Int.lt_trichotomy r i with h | h | h
    · have := hU.at h0 h (by omega); rw [h2, hxi, bless_irrefl] at this; simp at this
    · exact h
    · have := hU.at (i := (i : Int)) (by omega) h h1; rw [h2, hxi, bless_irrefl] at this; simp at this
theorem run_drop {L : List gSetting} (hl : L.length ≤ 1000) (hU : Up L) {x : gSetting} (hx : x ∈ L) (r : List gChange) : ∃ M, runC (gChange.mk 2 x :: r) L = runC r M ∧ Up M ∧ M.length ≤ L.length ∧ ∀ y, y ∈ M ↔ y ∈ L ∧ y.Name ≠ x.Name := by
  obtain ⟨i, hi, e, hat⟩ := at27_mem hU hx
  refine ⟨L.take i ++ L.drop (i + 1), ?_, up_cut hU _ _ (by omega), by simp only [List.length_append, List.length_take, List.length_drop]; omega, fun y => ?_⟩
  · have hk : ((gChange.mk 2 x).Kind == 1) = false := rfl
    have hn : ¬ ((i : Int) < 0) := by omega
    have hw := wr64 (n := (i : Int) + 1) (by omega)
    rw [runC, hk]
    simp only [Bool.cond_false, hat, hn, decide_false, hw, cut_drop, at_of hi, e]
    have hs : ((strB .eql x.Name x.Name) && ((x.Value == x.Value) && true)) = true := by simp [strB]
    rw [hs, show ((i : Int) + 1).toNat = i + 1 by omega, List.nil_append, show pre' L (i : Int) = L.take i by simp [pre']]
    rfl
  · have hne : ∀ j : Nat, ∀ hj : j < L.length, (L[j].Name = x.Name ↔ j = i) := fun j hj => by
      constructor
      · intro hh
        rcases Nat.lt_trichotomy j i with h | h | h
        · have := List.pairwise_iff_getElem.1 hU j i hj hi h; rw [hh, e, bless_irrefl] at this; simp at this
        · exact h
        · have := List.pairwise_iff_getElem.1 hU i j hi hj h; rw [hh, e, bless_irrefl] at this; simp at this
      · rintro rfl; rw [e]
    simp only [List.mem_append]
    constructor
    · rintro (h | h)
      · obtain ⟨j, hj, rfl⟩ := List.getElem_of_mem h
        have hj' : j < i ∧ j < L.length := by rw [List.length_take] at hj; omega
        rw [List.getElem_take]
        exact ⟨List.getElem_mem _, fun he => by have := (hne j hj'.2).1 he; omega⟩
      · obtain ⟨j, hj, rfl⟩ := List.getElem_of_mem h
        have hj' : i + 1 + j < L.length := by rw [List.length_drop] at hj; omega
        rw [List.getElem_drop]
        exact ⟨List.getElem_mem _, fun he => by have := (hne _ hj').1 he; omega⟩
    · rintro ⟨h, hn⟩
      obtain ⟨j, hj, rfl⟩ := mem_at h
      have hji : ¬ j = i := fun h => hn ((hne j hj).2 h)
      by_cases hlt : j < i
      · exact .inl (List.mem_take_iff_getElem.2 ⟨j, by omega, rfl⟩)
      · exact .inr (List.mem_drop_iff_getElem.2 ⟨j - (i + 1), by omega, by simp only [show i + 1 + (j - (i + 1)) = j by omega]⟩)
theorem run_drops : ∀ (ds : List gSetting) {L : List gSetting} (hl : L.length ≤ 1000) (hU : Up L) (hs : ∀ x ∈ ds, x ∈ L) (hd : ds.Pairwise (fun x y => x.Name ≠ y.Name)) (r : List gChange),
    ∃ M, runC (ds.map (gChange.mk 2) ++ r) L = runC r M ∧ Up M ∧ M.length ≤ L.length ∧ ∀ y, y ∈ M ↔ y ∈ L ∧ ∀ d ∈ ds, y.Name ≠ d.Name
  | [], L, hl, hU, hs, hd, r => ⟨L, rfl, hU, Nat.le_refl _, fun y => by simp⟩
  | x :: ds, L, hl, hU, hs, hd, r => by
    rw [List.pairwise_cons] at hd
    obtain ⟨M, h1, h2, h3, h4⟩ := run_drop hl hU (hs x List.mem_cons_self) (ds.map (gChange.mk 2) ++ r)
    obtain ⟨N, g1, g2, g3, g4⟩ := run_drops ds (L := M) (by omega) h2 (fun y hy => (h4 y).2 ⟨hs y (List.mem_cons_of_mem _ hy), fun e => hd.1 y hy e.symm⟩) hd.2 r
    refine ⟨N, by rw [List.map_cons, List.cons_append, h1, g1], g2, by omega, fun y => ?_⟩
    rw [g4, h4]
    simp only [List.mem_cons, forall_eq_or_imp]
    exact ⟨fun ⟨⟨a, b⟩, c⟩ => ⟨a, b, c⟩, fun ⟨a, b, c⟩ => ⟨⟨a, b⟩, c⟩⟩
theorem run_sets : ∀ (ss : List gSetting) {L : List gSetting} (hl : L.length + ss.length ≤ 24) (hU : Up L) (hd : ss.Pairwise (fun x y => x.Name ≠ y.Name)),
    ∃ M, runC (ss.map (gChange.mk 1)) L = (M, 0) ∧ Up M ∧ ∀ y, y ∈ M ↔ y ∈ ss ∨ (y ∈ L ∧ ∀ d ∈ ss, y.Name ≠ d.Name)
  | [], L, hl, hU, hd => ⟨L, rfl, hU, fun y => by simp⟩
  | x :: ss, L, hl, hU, hd => by
    rw [List.pairwise_cons] at hd
    simp only [List.length_cons] at hl
    obtain ⟨h1, h2⟩ := set_mem (by omega) hU x
    have h3 := set27_len L x
    obtain ⟨M, g1, g2, g3⟩ := run_sets ss (L := m_spec_l27Set L x) (by omega) h1 hd.2
    refine ⟨M, ?_, g2, fun y => ?_⟩
    · rw [List.map_cons, runC]
      have hk : ((gChange.mk 1 x).Kind == 1) = true := rfl
      have hn : ¬ (24 : Int) < ((m_spec_l27Set L x).length : Int) := by omega
      rw [hk]
      simp only [Bool.cond_true, hn, decide_false, Bool.cond_false]
      exact g1
    · rw [g3, h2]
      simp only [List.mem_cons, forall_eq_or_imp]
      constructor
      · rintro (h | ⟨rfl | ⟨ha, hb⟩, hc⟩)
        · exact .inl (.inr h)
        · exact .inl (.inl rfl)
        · exact .inr ⟨ha, hb, hc⟩
      · rintro ((rfl | h) | ⟨ha, hb, hc⟩)
        · exact .inr ⟨.inl rfl, fun d hd' => hd.1 d hd'⟩
        · exact .inl h
        · exact .inr ⟨.inr ⟨ha, hb⟩, hc⟩
theorem up_one {L : List gSetting} (hU : Up L) {x y : gSetting} (hx : x ∈ L) (hy : y ∈ L) (e : x.Name = y.Name) : x = y := by
  obtain ⟨i, hi, rfl⟩ := mem_at hx
  obtain ⟨j, hj, rfl⟩ := mem_at hy
  rcases Nat.lt_trichotomy i j with h | h | h
  · have := List.pairwise_iff_getElem.1 hU i j hi hj h; rw [e, bless_irrefl] at this; simp at this
  · subst h; rfl
  · have := List.pairwise_iff_getElem.1 hU j i hj hi h; rw [e, bless_irrefl] at this; simp at this
theorem up_ext : ∀ {A B : List gSetting}, Up A → Up B → (∀ e, e ∈ A ↔ e ∈ B) → A = B
  | [], [], _, _, _ => rfl
  | [], b :: B, _, _, h => absurd ((h b).2 List.mem_cons_self) List.not_mem_nil
  | a :: A, [], _, _, h => absurd ((h a).1 List.mem_cons_self) List.not_mem_nil
  | a :: A, b :: B, hA, hB, h => by
    obtain ⟨a1, a2⟩ := List.pairwise_cons.1 hA
    obtain ⟨b1, b2⟩ := List.pairwise_cons.1 hB
    have irr : ∀ {x y : gSetting}, Op.bytesLess x.Name y.Name = true → Op.bytesLess y.Name x.Name = true → False := fun h1 h2 => by
      have := bless_trans h1 h2; rw [bless_irrefl] at this; simp at this
    have e : a = b := by
      rcases List.mem_cons.1 ((h a).1 List.mem_cons_self) with e | e
      · exact e
      · rcases List.mem_cons.1 ((h b).2 List.mem_cons_self) with e' | e'
        · exact e'.symm
        · exact (irr (b1 a e) (a1 b e')).elim
    subst e
    have ne : ∀ {x : gSetting}, Op.bytesLess a.Name x.Name = true → x ≠ a := fun h e => by subst e; rw [bless_irrefl] at h; simp at h
    rw [up_ext a2 b2 fun x => ⟨fun hx => (List.mem_cons.1 ((h x).1 (List.mem_cons_of_mem _ hx))).resolve_left (ne (a1 x hx)), fun hx => (List.mem_cons.1 ((h x).2 (List.mem_cons_of_mem _ hx))).resolve_left (ne (b1 x hx))⟩]
theorem up_names {L : List gSetting} (hU : Up L) : L.Pairwise (fun x y => x.Name ≠ y.Name) := hU.imp fun h e => by rw [e, bless_irrefl] at h; simp at h

theorem LOOP_fmap {α β ρ : Type} [Inhabited α] {a : List α} (p : α → Bool) (g : α → β) {b : (List β × Int → ρ) → (List β × Int → ρ) → List β × Int → ρ} {k : List β × Int → ρ}
    (hb : ∀ rec x, b rec k x = bif decide (x.2 < (a.length : Int)) then (bif p (at' a x.2) then rec (x.1 ++ [g (at' a x.2)], x.2 + 1) else rec (x.1, x.2 + 1)) else k (x.1, x.2)) (acc : List β) :
    LOOP b k (((a.length : Int) - 0 : Int).toNat + 1) (acc, 0) = k (acc ++ (a.filter p).map g, (a.length : Int)) := by
  refine (LOOP_is (fun (x : List β × Int) => 0 ≤ x.2 ∧ x.2 ≤ a.length) (fun x => ((a.length : Int) - x.2).toNat) (fun x => k (x.1 ++ ((a.drop x.2.toNat).filter p).map g, (a.length : Int))) (fun rec x hI ih => ?_) ⟨by simp, by simp⟩ (by simp)).trans (by simp)
  obtain ⟨o, q⟩ := x
  obtain ⟨h0, h1⟩ := hI
  simp only at h0 h1
  rw [hb]
  by_cases hq : q < (a.length : Int)
  · have hlt : q.toNat < a.length := by omega
    have hat : at' a q = a[q.toNat] := by
      have := at_lt (xs := a) (j := q.toNat) hlt
      rwa [Int.toNat_of_nonneg h0] at this
    simp only [hq, decide_true, Bool.cond_true, hat]
    rw [List.drop_eq_getElem_cons hlt, List.filter_cons]
    cases hp : p a[q.toNat] with
    | true =>
      simp only [Bool.cond_true, if_true]
      rw [ih _ ⟨by simp only; omega, by simp only; omega⟩ (by simp only; omega)]
      simp only [List.map_cons, show (q + 1).toNat = q.toNat + 1 by omega, List.append_assoc, List.singleton_append]
    | false =>
      simp only [Bool.cond_false, Bool.false_eq_true, if_false]
      rw [ih _ ⟨by simp only; omega, by simp only; omega⟩ (by simp only; omega)]
      simp only [show (q + 1).toNat = q.toNat + 1 by omega]
  · have : q = a.length := by omega
    subst this
    simp
theorem val_cases (L : List gSetting) (n : List UInt8) : (m_impl_valueAt L n = (0, false) ∧ ∀ e ∈ L, e.Name ≠ n) ∨ ∃ e ∈ L, e.Name = n ∧ m_impl_valueAt L n = (e.Value, true) := by
  rcases value_is L n with ⟨h1, h2⟩ | ⟨j, ⟨⟨g0, g1⟩, g2, _⟩, h2⟩
  · refine .inl ⟨h1, fun e he hn => ?_⟩
    obtain ⟨i, hi, rfl⟩ := mem_at he
    have := h2 i (by omega) (by omega)
    rw [at_of hi] at this
    exact this hn
  · exact .inr ⟨_, at_mem ⟨g0, g1⟩, g2, h2⟩
def difD (a b : List gSetting) : List gSetting := a.filter fun x => !(m_impl_valueAt b x.Name).2
def difS (a b : List gSetting) : List gSetting := b.filter fun x => !(m_impl_valueAt a x.Name).2 || ((m_impl_valueAt a x.Name).1 != x.Value)
theorem run_diff {a b : List gSetting} (hA : Up a) (hB : Up b) (hl : a.length + b.length ≤ 24) : runC ((difD a b).map (gChange.mk 2) ++ (difS a b).map (gChange.mk 1)) a = (b, 0) := by
  have hd : (difD a b).Pairwise (fun x y => x.Name ≠ y.Name) := List.Pairwise.sublist List.filter_sublist (up_names hA)
  have hs : (difS a b).Pairwise (fun x y => x.Name ≠ y.Name) := List.Pairwise.sublist List.filter_sublist (up_names hB)
  obtain ⟨M, h1, h2, h3, h4⟩ := run_drops (difD a b) (L := a) (by omega) hA (fun x hx => (List.mem_filter.1 hx).1) hd ((difS a b).map (gChange.mk 1))
  have hsl : (difS a b).length ≤ b.length := List.length_filter_le _ _
  obtain ⟨N, g1, g2, g3⟩ := run_sets (difS a b) (L := M) (by omega) h2 hs
  rw [h1, g1]
  have hM : ∀ y, y ∈ M ↔ y ∈ a ∧ ∃ z ∈ b, z.Name = y.Name := fun y => by
    rw [h4]
    constructor
    · rintro ⟨h, hn⟩
      refine ⟨h, ?_⟩
      rcases val_cases b y.Name with ⟨v1, v2⟩ | ⟨z, hz, e, _⟩
      · exact absurd rfl (hn y (List.mem_filter.2 ⟨h, by rw [v1]; rfl⟩))
      · exact ⟨z, hz, e⟩
    · rintro ⟨h, z, hz, e⟩
      refine ⟨h, fun d hd' he => ?_⟩
      obtain ⟨q1, q2⟩ := List.mem_filter.1 hd'
      rcases val_cases b d.Name with ⟨_, v2⟩ | ⟨z', _, _, v⟩
      · exact v2 z hz (e.trans he)
      · rw [v] at q2; simp at q2
  rw [up_ext g2 hB fun y => ?_]
  rw [g3, hM]
  constructor
  · rintro (h | ⟨⟨h, z, hz, e⟩, hn⟩)
    · exact (List.mem_filter.1 h).1
    · have hzs : z ∉ difS a b := fun hzs => hn z hzs e.symm
      have hv : (m_impl_valueAt a z.Name).2 = true ∧ (m_impl_valueAt a z.Name).1 = z.Value := by
        cases h2' : (!(m_impl_valueAt a z.Name).2 || ((m_impl_valueAt a z.Name).1 != z.Value)) with
        | true => exact absurd (List.mem_filter.2 ⟨hz, h2'⟩) hzs
        | false =>
          simp only [Bool.or_eq_false_iff, Bool.not_eq_false', bne_eq_false_iff_eq] at h2'
          exact h2'
      rcases val_cases a z.Name with ⟨v, _⟩ | ⟨w, hw, ew, v⟩
      · rw [v] at hv; simp at hv
      · rw [v] at hv
        have : w = y := up_one hA hw h (ew.trans e)
        subst this
        have : w = z := by
          obtain ⟨n1, v1⟩ := w
          obtain ⟨n2, v2⟩ := z
          simp only at ew hv
          rw [ew, hv.2]
        rw [this]; exact hz
  · intro hy
    cases hq : (!(m_impl_valueAt a y.Name).2 || ((m_impl_valueAt a y.Name).1 != y.Value)) with
    | true => exact .inl (List.mem_filter.2 ⟨hy, hq⟩)
    | false =>
      right
      simp only [Bool.or_eq_false_iff, Bool.not_eq_false', bne_eq_false_iff_eq] at hq
      rcases val_cases a y.Name with ⟨v, _⟩ | ⟨w, hw, ew, v⟩
      · rw [v] at hq; simp at hq
      · rw [v] at hq
        have : w = y := by
          obtain ⟨n1, v1⟩ := w
          obtain ⟨n2, v2⟩ := y
          simp only at ew hq
          rw [ew, hq.2]
        subst this
        refine ⟨⟨hw, w, hy, rfl⟩, fun s hs' e => ?_⟩
        obtain ⟨s1, s2⟩ := List.mem_filter.1 hs'
        have : s = w := up_one hB s1 hy e.symm
        subst this
        rw [v] at s2
        simp at s2

theorem apply_run (list : List gSetting) (changes : List gChange) (L : List gSetting) (hU : Up L) (hl : L.length ≤ 24) :
    LOOP (m_impl_ApplyChanges_b1 list changes) (fun (x1 : (List gSetting) × Int) => (x1.1, 0)) (((changes.length : Int) - 0 : Int).toNat + 1) (L, 0) = runC changes L := by
  refine LOOP_is (fun (x : (List gSetting) × Int) => 0 ≤ x.2 ∧ x.2 ≤ changes.length ∧ Up x.1 ∧ x.1.length ≤ 24) (fun x => ((changes.length : Int) - x.2).toNat) (fun x => runC (changes.drop x.2.toNat) x.1) (fun rec x hI ih0 => ?_) ⟨by simp, by simp, hU, hl⟩ (by simp)
  obtain ⟨L, q⟩ := x
  obtain ⟨g0, g1, hU, hl⟩ := hI
  simp only at g0 g1 hU hl
  simp only [m_impl_ApplyChanges_b1]
  by_cases hq : q < (changes.length : Int)
  · have hlt : q.toNat < changes.length := by omega
    have hatc : at' changes q = changes[q.toNat] := by
      have := at_lt (xs := changes) (j := q.toNat) hlt
      rwa [Int.toNat_of_nonneg g0] at this
    have ih : ∀ M, Up M → M.length ≤ 24 → rec (M, q + 1) = runC (changes.drop (q.toNat + 1)) M := fun M h1 h2 => by
      rw [ih0 (M, q + 1) ⟨by simp only; omega, by simp only; omega, h1, h2⟩ (by simp only; omega)]
      simp only
      rw [show (q + 1).toNat = q.toNat + 1 by omega]
    simp only [hq, decide_true, Bool.cond_true, hatc]
    rw [List.drop_eq_getElem_cons hlt]
    generalize changes[q.toNat] = c
    simp only [runC]
    obtain ⟨i, hi, h1, h2, hbs⟩ := bs_is (x := L) (by omega) hU c.Setting
    rw [hbs]
    have hset := set27_is hU c.Setting i hi h1 h2
    generalize hF : (decide ((i : Int) < L.length) && ((at' L i).Name == c.Setting.Name)) = F at hset
    have hat := at27_at hU hi h1 h2 hF
    have hne := same_at hU h1 h2 hF
    have hFi : F = true → i < L.length := fun h => by rw [← hF] at h; simp only [Bool.and_eq_true, decide_eq_true_eq] at h; omega
    have hup : Up (L.take i ++ [c.Setting] ++ L.drop (nx F i)) := up_mid hU h1 fun j a b => by
      have hij := nx_le F i
      have h3 := hne j (by omega) b
      have h4 : (decide (j = (i : Int)) && F) = false := by
        cases hF' : F with
        | false => simp
        | true => subst hF'; simp only [nx, if_true] at a; simp; omega
      have h5 := bytes_tri (at' L j).Name c.Setting.Name
      rw [h2 j (by omega) b, h3, h4] at h5
      simpa using h5
    have hlen : (L.take i ++ [c.Setting] ++ L.drop (nx F i)).length = if F then L.length else L.length + 1 := by
      cases hF' : F with
      | false => simp [nx]; omega
      | true => have := hFi hF'; simp [nx]; omega
    cases hK : (c.Kind == 1) with
    | true =>
      simp only [Bool.true_and, Bool.cond_true]
      rw [hset]
      cases hF' : F with
      | true =>
        subst hF'
        have hil := hFi rfl
        simp only [if_true] at hlen
        have h24 : ¬ (24 : Int) < ((L.take i ++ [c.Setting] ++ L.drop (nx true i)).length : Int) := by omega
        simp only [h24, decide_false, Bool.cond_true, Bool.cond_false]
        rw [put_is hil]
        exact ih _ hup (by rw [show i + 1 = nx true i from rfl, hlen]; exact hl)
      | false =>
        subst hF'
        simp only [Bool.false_eq_true, if_false] at hlen
        simp only [Bool.cond_false]
        rw [hlen]
        by_cases h24 : L.length = 24
        · have a1 : ((L.length : Int) == 24) = true := by rw [h24]; rfl
          have a2 : (24 : Int) < ((L.length + 1 : Nat) : Int) := by omega
          simp only [a1, a2, decide_true, Bool.cond_true]
        · have a1 : ((L.length : Int) == 24) = false := by simp; omega
          have a2 : ¬ (24 : Int) < ((L.length + 1 : Nat) : Int) := by omega
          simp only [a1, a2, decide_false, Bool.cond_false]
          rw [insertS_is ⟨by omega, by omega⟩]
          have hins : ins L (i : Int) [c.Setting] = L.take i ++ [c.Setting] ++ L.drop (nx false i) := by simp [ins, nx]
          rw [hins]
          exact ih _ hup (by rw [hlen]; omega)
    | false =>
      simp only [Bool.false_and, Bool.cond_false]
      rw [hat]
      cases hF' : F with
      | false => rfl
      | true =>
        subst hF'
        have hil := hFi rfl
        have hn : ¬ ((i : Int) < 0) := by omega
        simp only [if_true, Bool.not_true, Bool.cond_false, hn, decide_false]
        generalize (strB .eql (at' L (i : Int)).Name c.Setting.Name && (((at' L (i : Int)).Value == c.Setting.Value) && true)) = same
        cases same with
        | false => rfl
        | true =>
          simp only [Bool.not_true, Bool.cond_false]
          have hw := wr64 (n := (i : Int) + 1) (by omega)
          rw [hw, deleteS_is (by omega), cut_drop]
          rw [show ((i : Int) + 1).toNat = i + 1 by omega, show ((i : Int)).toNat = i by omega, List.nil_append, show pre' L (i : Int) = L.take i by simp [pre']]
          exact ih _ (up_cut hU _ _ (by omega)) (by simp only [List.length_append, List.length_take, List.length_drop]; omega)
  · have : q.toNat = changes.length := by omega
    simp only [hq, decide_false, Bool.cond_false, this, List.drop_length, runC]

end Go.Proofs.YtdkkcemlnjlebaaDoor
