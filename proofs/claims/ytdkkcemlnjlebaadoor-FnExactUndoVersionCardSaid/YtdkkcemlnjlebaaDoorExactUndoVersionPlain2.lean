/-
  PLAIN LAWS about the models: no program in sight. Conditions: as each theorem states them.
-/
import Derived.Test.YtdkkcemlnjlebaaDoorExactUndoVersionPlain1
set_option linter.unusedVariables false
set_option linter.unusedSimpArgs false
set_option linter.unusedSectionVars false
set_option linter.unnecessarySimpa false
namespace Go.Proofs.YtdkkcemlnjlebaaDoor
open Go Go.RowKit Go.Proofs Go.Proofs.YtdkkcemlnjlebaaDoor.E

theorem bytesLess_eq : ∀ (x y : List UInt8), Op.bytesLess x y = decide (x < y)
  | [], [] => by simp [Op.bytesLess]
  | _ :: _, [] => by simp [Op.bytesLess]
  | [], _ :: _ => by simp [Op.bytesLess]
  | a :: x, b :: y => by
    rw [Op.bytesLess, bytesLess_eq x y]
    simp only [List.cons_lt_cons_iff]
    by_cases h1 : a < b <;> by_cases h2 : a = b <;> by_cases h3 : x < y <;> simp [h1, h2, h3]

/-! ## Rising lists of texts -/
abbrev Txt := List UInt8
theorem lss_eq (a b : Txt) : strB .lss a b = decide (a < b) := bytesLess_eq a b
theorem geq_eq (a b : Txt) : strB .geq a b = !decide (a < b) := by show (!Op.bytesLess a b) = _; rw [bytesLess_eq]
theorem neq_iff {a b : Txt} : strB .neq a b = true ↔ a ≠ b := by simp [strB]
theorem lt_le {a b : Txt} (h : a < b) : a ≤ b := List.le_of_lt h
theorem lt_trans' {a b c : Txt} (h : a < b) (h2 : b < c) : a < c := List.lt_trans h h2
theorem lt_of_le_lt {a b c : Txt} (h : a ≤ b) (h2 : b < c) : a < c := List.lt_of_le_of_lt h h2
theorem lt_of_le_ne' {a b : Txt} (h : a ≤ b) (h2 : a ≠ b) : a < b := Std.lt_of_le_of_ne h h2
abbrev Rise (l : List Txt) : Prop := l.Pairwise (· < ·)
theorem rise_ext {s t : List Txt} (hs : Rise s) (ht : Rise t) (h : ∀ x, x ∈ s ↔ x ∈ t) : s = t := by
  have nd : ∀ {l : List Txt}, Rise l → l.Nodup := fun hl => hl.imp (fun hab e => by subst e; exact List.lt_irrefl _ hab)
  have hp : s.Perm t := (List.perm_ext_iff_of_nodup (nd hs) (nd ht)).2 h
  exact List.Perm.eq_of_pairwise (le := (· < ·)) (fun a b _ _ h1 h2 => absurd (List.lt_trans h1 h2) (List.lt_irrefl a)) hs ht hp
theorem sortS_up (l : List Txt) : (l.mergeSort fun x y => decide (x ≤ y)).Pairwise (· ≤ ·) := by
  have := List.pairwise_mergeSort (le := fun x y : Txt => decide (x ≤ y)) (fun a b c h1 h2 => by simp only [decide_eq_true_eq] at *; exact List.le_trans h1 h2) (fun a b => by simp only [Bool.or_eq_true, decide_eq_true_eq]; exact List.le_total a b) l
  exact this.imp (fun h => by simpa using h)
theorem arr_at {zs : List Txt} {j : Nat} (h : j < zs.length) : zs.toArray[j]! = zs[j] := by
  rw [getElem!_pos _ j (by simpa using h), List.getElem_toArray]

/-! ## Bounds -/
theorem l00In_imp {n l h : Int} (e : m_spec_l00In n l h = true) : l ≤ n ∧ n ≤ h := by
  simpa [m_spec_l00In] using e
theorem within_imp {n l h : Int} (e : m_impl_within n l h = true) : l ≤ n ∧ n ≤ h := by
  simpa [m_impl_within] using e

/-! ## How long the library's numerals are -/
theorem digits_len : ∀ (k u : Nat), u < 10 ^ (k + 1) → (Lib.decDigits u).length ≤ k + 1
  | 0, u, h => by rw [Lib.decDigits, dif_pos (by simpa using h)]; simp
  | k + 1, u, h => by
    rw [Lib.decDigits]
    split
    · simp
    · have := digits_len k (u / 10) (by rw [Nat.pow_succ] at h; omega)
      simp; omega
theorem itoa_len {n : Int} (hn : -9223372036854775808 ≤ n ∧ n ≤ 9223372036854775807) : (Lib.itoa n).length ≤ 20 := by
  unfold Lib.itoa
  split
  · have := digits_len 18 n.natAbs (by show n.natAbs < 10000000000000000000; omega)
    simp; omega
  · have := digits_len 18 n.toNat (by show n.toNat < 10000000000000000000; omega)
    omega

/-! ## Texts in order -/
theorem bytes_tri : ∀ (a b : List UInt8), (Op.bytesLess a b || a == b) = !Op.bytesLess b a
  | [], [] => rfl
  | [], _ :: _ => rfl
  | _ :: _, [] => rfl
  | x :: a, y :: b => by
    have ih := bytes_tri a b
    simp only [Op.bytesLess]
    by_cases h1 : x < y
    · have h2 : ¬ y < x := fun h => absurd (UInt8.lt_trans h1 h) (UInt8.lt_irrefl _)
      have h3 : ¬ (y == x) = true := fun h => by rw [beq_iff_eq] at h; subst h; exact h2 h1
      simp [h1, h2, h3]
    · by_cases h2 : y < x
      · have h3 : ¬ (x == y) = true := fun h => by rw [beq_iff_eq] at h; subst h; exact h1 h2
        have h4 : ¬ x = y := fun h => h3 (by simp [h])
        simp [h1, h2, h4]
      · have h3 : x = y := UInt8.le_antisymm (UInt8.not_lt.1 h2) (UInt8.not_lt.1 h1)
        subst h3
        simp only [h1, decide_false, Bool.false_or, beq_self_eq_true, Bool.true_and]
        rw [← ih]
        simp
theorem strleq_geq (a b : List UInt8) : strB .leq a b = strB .geq b a := bytes_tri a b

/-! ## Names: both models judge alike -/
theorem and_bif (p q : Bool) : (bif p then q else false) = (p && q) := by cases p <;> rfl
theorem name_eq (s : List UInt8) : m_impl_IsName s = m_spec_l01Name s := by
  rw [Bool.eq_iff_iff]
  have h1 := LOOP_all (b := m_impl_onlyNameBytes_b1 s) (n := s.length) (fun rec k i _ => rfl) (k := fun _ => true) ((s.length : Int) - 0 : Int).toNat.succ 0 (by omega) (by omega) (by omega)
  have h2 := LOOP_all (b := m_spec_l01Name_b1 s) (n := s.length) (fun rec k i _ => rfl) (k := fun _ => true) ((s.length : Int) - 0 : Int).toNat.succ 0 (by omega) (by omega) (by omega)
  simp only [m_impl_IsName, m_spec_l01Name, m_impl_onlyNameBytes]
  change (LOOP _ _ (((s.length : Int) - 0 : Int).toNat + 1) _ = true ↔ _) at h1
  change (LOOP _ _ (((s.length : Int) - 0 : Int).toNat + 1) _ = true ↔ _) at h2
  have hl : strB .eql s [] = decide ((s.length : Int) < 1) := by
    cases s <;> simp [strB]; omega
  rw [hl]
  generalize ((s.getD (0 : Int).toNat 0).toNat : Int) = c
  simp only [m_spec_l01Small]
  simp only [Bool.cond_eq_ite, Bool.or_eq_true, Bool.not_eq_true', Bool.and_eq_false_iff, decide_eq_true_eq, decide_eq_false_iff_not]
  have e : (∀ j : Nat, (0 : Int) ≤ j → j < s.length → ((decide ((((s.getD (j : Int).toNat 0).toNat : Nat) : Int) < 97) || decide (122 < (((s.getD (j : Int).toNat 0).toNat : Nat) : Int))) && (decide ((((s.getD (j : Int).toNat 0).toNat : Nat) : Int) < 48) || decide (57 < (((s.getD (j : Int).toNat 0).toNat : Nat) : Int)))) = false) ↔ (∀ j : Nat, (0 : Int) ≤ j → j < s.length → (!m_spec_l01Small (((s.getD (j : Int).toNat 0).toNat : Nat) : Int) && !m_spec_l01Digit (((s.getD (j : Int).toNat 0).toNat : Nat) : Int)) = false) := by
    refine forall_congr' fun j => forall_congr' fun _ => forall_congr' fun _ => ?_
    generalize (((s.getD (j : Int).toNat 0).toNat : Nat) : Int) = c
    simp only [m_spec_l01Small, m_spec_l01Digit, Bool.and_eq_false_iff, Bool.or_eq_false_iff, Bool.not_eq_false', Bool.and_eq_true, decide_eq_true_eq, decide_eq_false_iff_not]
    omega
  split <;> rename_i h1' <;> split <;> rename_i h2'
  · simp
  · exfalso; omega
  · exfalso; omega
  · rw [h1, h2, e]
theorem within_eq (n l h : Int) : m_impl_within n l h = m_spec_l00In n l h := rfl
theorem name_len {s : List UInt8} (h : m_spec_l01Name s = true) : s.length ≤ 10 := by
  simp only [m_spec_l01Name] at h
  cases hc : ((strB .eql s ([] : List UInt8)) || (decide (10 < (s.length : Int)))) with
  | true => rw [hc] at h; simp at h
  | false =>
    simp only [Bool.or_eq_false_iff, decide_eq_false_iff_not] at hc; omega

/-! ## Labels of what a closure holds -/
theorem labB_ro {C : List V} (h : C.all V.ro = true) : C.flatMap V.labB = [] := by
  rw [List.flatMap_eq_nil_iff]
  intro v hv
  have := List.all_eq_true.1 h v hv
  cases v <;> first | rfl | (simp [V.ro] at this)
theorem cpy_tail_len {α : Type} {xs : List α} {o : Nat} {z : α} : (cpy xs o (List.replicate ((xs.length : Int).toNat - o) z)).length = xs.length := by
  simp only [cpy, List.length_append, List.length_take, List.length_drop, List.length_replicate, Int.toNat_natCast]; omega
theorem pre_len2 {α : Type} {xs : List α} {b : Int} : (pre' xs b).length = min b.toNat xs.length := by unfold pre'; rw [List.length_take]

/-! ## Decimal numerals: the reference's digits are the library's numeral; lists of numbers as text -/
def DecI (l : Nat) (m : Int) : Prop := l ≤ 19 ∧ m.natAbs < 10 ^ (19 - l)
theorem DecI.start {n : Int} (h : -9223372036854775808 ≤ n ∧ n ≤ 9223372036854775807) : DecI 0 n := ⟨by omega, by show n.natAbs < 10000000000000000000; omega⟩
theorem DecI.len {l : Nat} {m : Int} (h : DecI l m) : l ≤ 19 := h.1
theorem tdiv_abs (m : Int) : (Int.tdiv m 10).natAbs = m.natAbs / 10 := by
  rw [Int.natAbs_tdiv]; rfl
theorem DecI.wr {l : Nat} {m : Int} (h : DecI l m) : IntKind.wrap .i64 (Int.tdiv m 10) = Int.tdiv m 10 := by
  have h1 : m.natAbs < 10000000000000000000 := Nat.lt_of_lt_of_le h.2 (by
    show 10 ^ (19 - l) ≤ 10 ^ 19
    exact Nat.pow_le_pow_right (by omega) (by omega))
  have h2 := tdiv_abs m
  exact wr64 (by omega)
theorem DecI.step {a : List Int} {b m : Int} (h : DecI a.length m) (hm : ¬ m = 0) : DecI (a ++ [b]).length (IntKind.wrap .i64 (Int.tdiv m 10)) := by
  rw [h.wr]
  have h1 := h.1
  have h2 := h.2
  have hl : a.length < 19 := by
    by_cases e : a.length = 19
    · rw [e] at h2
      have : m.natAbs < 1 := h2
      omega
    · omega
  refine ⟨by simp; omega, ?_⟩
  rw [tdiv_abs]
  have e : 19 - a.length = (19 - (a ++ [b]).length) + 1 := by simp; omega
  rw [e, Nat.pow_succ] at h2
  omega
theorem dec_mu {l : Nat} {m : Int} (h : DecI l m) (hm : ¬ m = 0) : (IntKind.wrap .i64 (Int.tdiv m 10)).natAbs < m.natAbs := by
  rw [h.wr, tdiv_abs]; omega
/-- the digits, the last one first -/
def rd : Nat → Nat → List Int
  | 0, _ => []
  | k + 1, u => if u = 0 then [] else ((48 + u % 10 : Nat) : Int) :: rd k (u / 10)
theorem rd_digits : ∀ (k u : Nat), u < 10 ^ k → u ≠ 0 → chars (rd k u).reverse = Lib.decDigits u
  | 0, u, h, h0 => by simp at h; omega
  | k + 1, u, h, h0 => by
    rw [Lib.decDigits]
    simp only [rd, h0, if_false, List.reverse_cons]
    by_cases hu : u < 10
    · have e : u / 10 = 0 := by omega
      rw [dif_pos hu, e]
      have e2 : rd k 0 = [] := by cases k <;> simp [rd]
      rw [e2]
      simp only [List.reverse_nil, List.nil_append, chars, List.map_cons, List.map_nil, Int.toNat_natCast]
      rw [Nat.mod_eq_of_lt hu]
    · rw [dif_neg hu]
      have ih := rd_digits k (u / 10) (by rw [Nat.pow_succ] at h; omega) (by omega)
      simp only [chars, List.map_append, List.map_cons, List.map_nil, Int.toNat_natCast] at ih ⊢
      rw [ih]
theorem tmod_abs (m : Int) : (Int.tmod m 10).natAbs = m.natAbs % 10 := by
  rw [Int.natAbs_tmod]; rfl
theorem digit_is (m : Int) : IntKind.wrap .u8 (IntKind.wrap .i64 (48 + (((Int.tmod m 10).natAbs : Nat) : Int))) = ((48 + m.natAbs % 10 : Nat) : Int) := by
  rw [tmod_abs, wr64 (by omega), IntKind.wrap_u8]
  omega
/-- the second loop turns a row round -/
theorem dec_turn (n : Int) (x1 : List Int × Int) (v : List Int) (hv : v.length ≤ 9223372036854775807) :
    LOOP (m_spec_l01Dec_b2 n x1 v) (fun (x2 : List Int × Int) => chars x2.1) (v.length + 1) (([] : List Int), IntKind.wrap .i64 ((v.length : Int) - 1)) = chars v.reverse := by
  refine LOOP_is (fun (x : List Int × Int) => -1 ≤ x.2 ∧ x.2 < v.length ∧ x.1 = (v.drop (x.2 + 1).toNat).reverse) (fun x => (x.2 + 1).toNat) (fun _ => chars v.reverse) (fun rec x hI ih => ?_) ?_ ?_
  · obtain ⟨o, i⟩ := x
    obtain ⟨h1, h2, h3⟩ := hI
    simp only at h1 h2 h3
    simp only [m_spec_l01Dec_b2]
    by_cases hi : 0 ≤ i
    · simp only [hi, decide_true, Bool.cond_true]
      refine ih _ ⟨by simp only; omega, by simp only; omega, ?_⟩ (by simp only; omega)
      simp only
      rw [h3]
      have e1 : (i - 1 + 1).toNat = i.toNat := by omega
      have e2 : (i + 1).toNat = i.toNat + 1 := by omega
      have hlt : i.toNat < v.length := by omega
      rw [e1, e2, List.drop_eq_getElem_cons hlt, List.reverse_cons]
      congr 2
      simp [at', List.getD_eq_getElem?_getD, List.getElem?_eq_getElem hlt]
    · simp only [hi, decide_false, Bool.cond_false]
      have e : (i + 1).toNat = 0 := by omega
      rw [h3, e, List.drop_zero]
  · refine ⟨?_, ?_, ?_⟩
    · simp only; rw [wr64 (by omega)]; omega
    · simp only; rw [wr64 (by omega)]; omega
    · simp only; rw [wr64 (by omega)]
      have e : ((v.length : Int) - 1 + 1).toNat = v.length := by omega
      rw [e, List.drop_length]; rfl
  · simp only; rw [wr64 (by omega)]; omega
/-- what comes behind the first loop -/
def decEnd (n : Int) (ds : List Int) : List UInt8 := chars (if n < 0 then ds ++ [45] else ds).reverse
theorem dec_eq (n : Int) (hn : -9223372036854775808 ≤ n ∧ n ≤ 9223372036854775807) : m_spec_l01Dec n = Lib.itoa n := by
  by_cases h0 : n = 0
  · subst h0
    simp only [m_spec_l01Dec, beq_self_eq_true, Bool.cond_true, Lib.itoa]
    rw [if_neg (by omega), Lib.decDigits, dif_pos (by decide)]; rfl
  have hb : (n == 0) = false := by simpa using h0
  simp only [m_spec_l01Dec, hb, Bool.cond_false]
  have hK : ∀ x : List Int × Int, x.1.length ≤ 100 → JN (fun j11 : List Int → List UInt8 => bif decide (n < 0) then j11 (x.1 ++ ([45] : List Int)) else j11 x.1) (fun (v10 : (List Int)) => LOOP (m_spec_l01Dec_b2 n x v10) (fun (x2 : (List Int) × Int) => chars x2.1) (v10.length + 1) (([] : List Int), IntKind.wrap .i64 ((v10.length : Int) - 1))) = decEnd n x.1 := by
    intro x hx
    simp only [JN, decEnd]
    by_cases hn0 : n < 0
    · simp only [hn0, decide_true, Bool.cond_true, if_true]
      exact dec_turn n x _ (by simp; omega)
    · simp only [hn0, decide_false, Bool.cond_false, if_false]
      exact dec_turn n x _ (by omega)
  have key := LOOP_is (b := m_spec_l01Dec_b1 n) (k := fun (x1 : (List Int) × Int) => JN (fun j11 : List Int → List UInt8 => bif decide (n < 0) then j11 (x1.1 ++ ([45] : List Int)) else j11 x1.1) (fun (v10 : (List Int)) => LOOP (m_spec_l01Dec_b2 n x1 v10) (fun (x2 : (List Int) × Int) => chars x2.1) (v10.length + 1) (([] : List Int), IntKind.wrap .i64 ((v10.length : Int) - 1)))) (f := n.natAbs + 1) (x := (([] : List Int), n))
    (fun (x : List Int × Int) => DecI x.1.length x.2) (fun x => x.2.natAbs) (fun x => decEnd n (x.1 ++ rd (19 - x.1.length) x.2.natAbs)) (fun rec x hI ih => ?_) (DecI.start hn) (by simp)
  · rw [key]
    simp only [List.nil_append, List.length_nil, Nat.sub_zero, decEnd, Lib.itoa]
    have hr := rd_digits 19 n.natAbs (by show n.natAbs < 10000000000000000000; omega) (by omega)
    by_cases hn0 : n < 0
    · simp only [hn0, if_true, List.reverse_append, List.reverse_cons, List.reverse_nil, List.nil_append]
      rw [← hr]; rfl
    · simp only [hn0, if_false]
      rw [hr]; congr 1; omega
  · obtain ⟨ds, m⟩ := x
    simp only at hI
    simp only [m_spec_l01Dec_b1]
    by_cases hm : m = 0
    · subst hm
      simp only [bne_self_eq_false, Bool.cond_false, Int.natAbs_zero]
      rw [hK (ds, 0) (by have := hI.1; simp only; omega)]
      have e2 : rd (19 - ds.length) 0 = [] := by cases (19 - ds.length) <;> simp [rd]
      rw [e2, List.append_nil]
    · have hb2 : (m != 0) = true := by simpa using hm
      have hst := hI.step (b := ((48 + m.natAbs % 10 : Nat) : Int)) hm
      have e : (bif decide (Int.tmod m 10 < 0) then IntKind.wrap .i64 (0 - Int.tmod m 10) else Int.tmod m 10) = (((Int.tmod m 10).natAbs : Nat) : Int) := by
        have := tmod_abs m
        by_cases h : Int.tmod m 10 < 0
        · simp only [h, decide_true, Bool.cond_true]; rw [wr64 (by omega)]; omega
        · simp only [h, decide_false, Bool.cond_false]; omega
      have e' : ∀ (j : Int → List UInt8), (bif decide (Int.tmod m 10 < 0) then j (IntKind.wrap .i64 (0 - Int.tmod m 10)) else j (Int.tmod m 10)) = j (((Int.tmod m 10).natAbs : Nat) : Int) := by
        intro j; rw [← e]; cases decide (Int.tmod m 10 < 0) <;> rfl
      simp only [hb2, Bool.cond_true, JN]
      refine (e' (fun v5 => rec (ds ++ [IntKind.wrap .u8 (IntKind.wrap .i64 (48 + v5))], IntKind.wrap .i64 (Int.tdiv m 10)))).trans ?_
      rw [digit_is]
      rw [ih (ds ++ [((48 + m.natAbs % 10 : Nat) : Int)], IntKind.wrap .i64 (Int.tdiv m 10)) hst (dec_mu hI hm)]
      simp only
      rw [hI.wr, tdiv_abs]
      have hl : ds.length < 19 := by have h1 := hst.1; simp at h1; omega
      have e3 : 19 - ds.length = (19 - (ds.length + 1)) + 1 := by omega
      have hm' : m.natAbs ≠ 0 := by omega
      rw [List.length_append, List.length_cons, List.length_nil, e3]
      simp only [rd, hm', if_false, List.append_assoc, List.cons_append, List.nil_append]
theorem dec_len {n : Int} (hn : -9223372036854775808 ≤ n ∧ n ≤ 9223372036854775807) : (m_spec_l01Dec n).length ≤ 20 := by rw [dec_eq n hn]; exact itoa_len hn

/-! ## Names of states: putting a setting in its place -/
abbrev nms (l : List gSetting) : List Txt := l.map (·.Name)

/-! ## Names and values of states: the program alone -/
theorem app_loop {σ : Type} [Inhabited σ] {x3 : List σ} {g : σ → Txt} {acc : List Txt} {ρ : Type} {b : ((List Txt) × Int → ρ) → ((List Txt) × Int → ρ) → (List Txt) × Int → ρ} {k : (List Txt) × Int → ρ} (hb : ∀ rec x, b rec k x = bif decide (x.2 < (x3.length : Int)) then rec (x.1 ++ ([g (at' x3 x.2)] : List Txt), x.2 + 1) else k (x.1, x.2)) :
    LOOP b k (((x3.length : Int) - 0 : Int).toNat + 1) (acc, 0) = k (acc ++ x3.map g, (x3.length : Int)) := by
  refine LOOP_is (fun (x : List Txt × Int) => (0 ≤ x.2 ∧ x.2 ≤ x3.length) ∧ x.1 = acc ++ (x3.take x.2.toNat).map g) (fun x => ((x3.length : Int) - x.2).toNat) (fun _ => k (acc ++ x3.map g, (x3.length : Int))) (fun rec x hI ih => ?_) ⟨⟨by simp, by simp⟩, by simp⟩ (by simp)
  obtain ⟨s, i⟩ := x
  obtain ⟨⟨h0, h1⟩, hA⟩ := hI
  simp only at h0 h1 hA
  rw [hb]
  simp only
  by_cases hi : i < (x3.length : Int)
  · have hlt : i.toNat < x3.length := by omega
    have hat : at' x3 i = x3[i.toNat] := by
      have := at_lt (xs := x3) (j := i.toNat) hlt
      rwa [Int.toNat_of_nonneg h0] at this
    simp only [hi, decide_true, Bool.cond_true]
    refine ih _ ⟨⟨by simp only; omega, by simp only; omega⟩, ?_⟩ (by simp only; omega)
    simp only
    rw [show (i + 1).toNat = i.toNat + 1 by omega, List.take_succ_eq_append_getElem hlt, List.map_append, hA, hat]; simp
  · have he : i = x3.length := by omega
    subst he
    simp only [hi, decide_false, Bool.cond_false]
    rw [Int.toNat_natCast, List.take_length] at hA
    rw [hA]
theorem eql_iff {a b : Txt} : strB .eql a b = true ↔ a = b := by simp [strB]
def firstAt (list : List gSetting) (name : Txt) (j : Int) : Prop := (0 ≤ j ∧ j < list.length) ∧ (at' list j).Name = name ∧ ∀ q, 0 ≤ q → q < j → (at' list q).Name ≠ name
def noneAt (list : List gSetting) (name : Txt) : Prop := ∀ q, 0 ≤ q → q < (list.length : Int) → (at' list q).Name ≠ name

theorem setting_eq (e : gSetting) : m_impl_Setting_valid e = m_spec_l27Setting e := by
  simp only [m_impl_Setting_valid, m_spec_l27Setting, name_eq]; rfl
theorem state_all (list : List gSetting) : m_spec_l27State list = true ↔ (∀ j : Nat, (0 : Int) ≤ j → j < list.length → ((!(m_spec_l27Setting (at' list j))) || ((decide ((0 : Int) < j)) && (strB .geq (at' list ((j : Int) - 1)).Name (at' list j).Name))) = false) ∧ list.length ≤ 24 := by
  have h2 := LOOP_all (b := m_spec_l27State_b1 list) (n := list.length) (fun rec k i _ => rfl) (k := fun _ => decide ((list.length : Int) ≤ 24)) (((list.length : Int) - 0 : Int).toNat + 1) 0 (by omega) (by omega) (by omega)
  simp only [m_spec_l27State]
  rw [h2]
  simp only [decide_eq_true_eq]
  constructor
  · rintro ⟨a, b⟩; exact ⟨a, by omega⟩
  · rintro ⟨a, b⟩; exact ⟨a, by omega⟩
theorem state_eq (list : List gSetting) : m_impl_ValidState list = m_spec_l27State list := by
  rw [Bool.eq_iff_iff, state_all]
  have h1 := LOOP_all (b := m_impl_ValidState_b1 list) (n := list.length) (fun rec k i _ => rfl) (k := fun _ => true) (((list.length : Int) - 0 : Int).toNat + 1) 0 (by omega) (by omega) (by omega)
  simp only [m_impl_ValidState]
  by_cases hl : 24 < (list.length : Int)
  · simp only [hl, decide_true, Bool.cond_true]
    constructor
    · intro h; exact absurd h (by simp)
    · rintro ⟨_, h⟩; omega
  · simp only [hl, decide_false, Bool.cond_false]
    rw [h1]
    simp only [setting_eq, strleq_geq, and_true]
    constructor
    · intro h; exact ⟨h, by omega⟩
    · rintro ⟨h, _⟩; exact h
def StIn (list : List gSetting) : Prop := list.length ≤ 24 ∧ ∀ y ∈ list, y.Name.length ≤ 10 ∧ 0 ≤ y.Value ∧ y.Value ≤ 1000
theorem state_in {list : List gSetting} (h : m_spec_l27State list = true) : StIn list := by
  have h1 := (state_all list).1 h
  refine ⟨h1.2, all_at.2 fun j hj => ?_⟩
  have h2 := h1.1 j (by omega) hj
  simp only [Bool.or_eq_false_iff, Bool.not_eq_false'] at h2
  have h3 := h2.1
  simp only [m_spec_l27Setting, Bool.and_eq_true] at h3
  have h4 := l00In_imp h3.2
  exact ⟨name_len h3.1, h4.1, h4.2⟩
theorem state_inI {list : List gSetting} (h : m_impl_ValidState list = true) : StIn list := state_in (by rw [← state_eq]; exact h)

theorem state_l24 {list : List gSetting} (h : m_spec_l27State list = true) : list.length ≤ 24 := (state_in h).1
theorem state_l24I {list : List gSetting} (h : m_impl_ValidState list = true) : list.length ≤ 24 := state_l24 (by rw [← state_eq]; exact h)
theorem muts_len {s : S} {full : Bool} {M : List (Nat × Nat)} {l L m m' : Nat} (h : E.look M l = some L) (e : m' = m) : PassB s full M (.os l m') (.os L m) [] := by subst e; exact .muts h

/-! ## States as sets of settings: what a merge is -/
theorem name_one {L : List gSetting} (hL : Rise (nms L)) {x y : gSetting} (hx : x ∈ L) (hy : y ∈ L) (e : x.Name = y.Name) : x = y := by
  obtain ⟨i, hi, rfl⟩ := List.getElem_of_mem hx
  obtain ⟨j, hj, rfl⟩ := List.getElem_of_mem hy
  have hget : ∀ j k (hj : j < L.length) (hk : k < L.length), j < k → L[j].Name < L[k].Name := fun j k hj hk hjk => by
    have := List.pairwise_iff_getElem.1 hL j k (by simpa [nms] using hj) (by simpa [nms] using hk) hjk
    simpa [nms] using this
  rcases Nat.lt_trichotomy i j with h | h | h
  · have := hget i j hi hj h; rw [e] at this; exact absurd this (List.lt_irrefl _)
  · subst h; rfl
  · have := hget j i hj hi h; rw [e] at this; exact absurd this (List.lt_irrefl _)
theorem state_ext {A B : List gSetting} (hA : Rise (nms A)) (hB : Rise (nms B)) (h : ∀ e, e ∈ A ↔ e ∈ B) : A = B := by
  have hn : nms A = nms B := rise_ext hA hB fun x => by
    simp only [nms, List.mem_map]
    constructor
    · rintro ⟨e, he, rfl⟩; exact ⟨e, (h e).1 he, rfl⟩
    · rintro ⟨e, he, rfl⟩; exact ⟨e, (h e).2 he, rfl⟩
  have hl : A.length = B.length := by have := congrArg List.length hn; simpa [nms] using this
  refine List.ext_getElem hl fun i h1 h2 => ?_
  have e1 : A[i].Name = B[i].Name := by
    have := congrArg (fun l => l[i]?) hn
    simp only [nms, List.getElem?_map, List.getElem?_eq_getElem h1, List.getElem?_eq_getElem h2, Option.map_some] at this
    exact Option.some.inj this
  exact name_one hB ((h _).1 (List.getElem_mem h1)) (List.getElem_mem h2) e1
theorem state_iff (list : List gSetting) : m_spec_l27State list = true ↔ (∀ e ∈ list, m_spec_l27Setting e = true) ∧ Rise (nms list) ∧ list.length ≤ 24 := by
  rw [state_all]
  constructor
  · rintro ⟨h, hl⟩
    have hs : ∀ j : Nat, j < list.length → m_spec_l27Setting (at' list j) = true ∧ (0 < j → (at' list ((j : Int) - 1)).Name < (at' list j).Name) := fun j hj => by
      have := h j (by omega) hj
      simp only [Bool.or_eq_false_iff, Bool.not_eq_false', Bool.and_eq_false_iff, decide_eq_false_iff_not, geq_eq, decide_eq_true_eq] at this
      refine ⟨this.1, fun h0 => ?_⟩
      rcases this.2 with h' | h'
      · omega
      · exact h'
    have hup : ∀ (d j : Nat), ∀ h : j + d + 1 < list.length, list[j].Name < list[j + d + 1].Name := fun d => by
      induction d with
      | zero =>
        intro j hj
        have := (hs (j + 1) hj).2 (by omega)
        rw [show (((j + 1 : Nat) : Int) - 1) = (j : Int) by omega, at_lt (by omega), at_lt hj] at this
        exact this
      | succ d ih =>
        intro j hj
        have h1 := ih j (by omega)
        have := (hs (j + (d + 1) + 1) hj).2 (by omega)
        rw [show (((j + (d + 1) + 1 : Nat) : Int) - 1) = ((j + d + 1 : Nat) : Int) by omega, at_lt (by omega), at_lt hj] at this
        exact lt_trans' h1 this
    refine ⟨fun e he => ?_, ?_, hl⟩
    · obtain ⟨i, hi, rfl⟩ := List.getElem_of_mem he
      have := (hs i hi).1
      rwa [at_lt hi] at this
    · refine List.pairwise_iff_getElem.2 fun i j hi hj hij => ?_
      have hi' : i < list.length := by simpa [nms] using hi
      have hj' : j < list.length := by simpa [nms] using hj
      simp only [nms, List.getElem_map]
      have := hup (j - i - 1) i (by omega)
      have e : i + (j - i - 1) + 1 = j := by omega
      simp only [e] at this
      exact this
  · rintro ⟨h1, h2, h3⟩
    refine ⟨fun j h0 hj => ?_, h3⟩
    simp only [Bool.or_eq_false_iff, Bool.not_eq_false', Bool.and_eq_false_iff, decide_eq_false_iff_not, geq_eq, decide_eq_true_eq]
    refine ⟨by rw [at_lt hj]; exact h1 _ (List.getElem_mem hj), ?_⟩
    by_cases hj0 : j = 0
    · left; omega
    · right
      have := List.pairwise_iff_getElem.1 h2 (j - 1) j (by simp [nms]; omega) (by simpa [nms] using hj) (by omega)
      simp only [nms, List.getElem_map] at this
      rw [show ((j : Int) - 1) = ((j - 1 : Nat) : Int) by omega, at_lt (by omega), at_lt hj]
      exact this

/-! ## Numbers within bounds -/
theorem allWithin_iff {list : List Int} {lo hi : Int} : m_impl_allWithin list lo hi = true ↔ ∀ y ∈ list, lo ≤ y ∧ y ≤ hi := by
  simp only [m_impl_allWithin, Bool.not_eq_true']
  rw [← Bool.not_eq_true, cf_int64]
  simp only [m_impl_allWithin_1, m_impl_within, Bool.not_eq_true', Bool.and_eq_false_iff, decide_eq_false_iff_not]
  constructor
  · intro h y hy
    refine Decidable.byContradiction fun hn => h ⟨y, hy, ?_⟩
    omega
  · rintro h ⟨y, hy, h2⟩
    have := h y hy
    omega

/-! ## Memos: both models judge alike -/
theorem memo_eq (s : List UInt8) : m_impl_memoValid s = m_spec_l27Memo s := by
  rw [Bool.eq_iff_iff]
  have h1 := LOOP_all (b := m_impl_bytesWithin_b1 s 32 126) (n := s.length) (fun rec k i _ => rfl) (k := fun _ => true) (((s.length : Int) - 0 : Int).toNat + 1) 0 (by omega) (by omega) (by omega)
  have h2 := LOOP_all (b := m_spec_l27Memo_b1 s) (n := s.length) (fun rec k i _ => rfl) (k := fun _ => decide ((s.length : Int) ≤ 20)) (((s.length : Int) - 0 : Int).toNat + 1) 0 (by omega) (by omega) (by omega)
  simp only [m_impl_memoValid, m_spec_l27Memo, m_impl_bytesWithin, Bool.and_eq_true]
  rw [h1, h2]
  constructor
  · rintro ⟨a, b, _⟩; exact ⟨b, a⟩
  · rintro ⟨b, a⟩; exact ⟨a, b, rfl⟩
theorem memo_len {s : List UInt8} (h : m_spec_l27Memo s = true) : s.length ≤ 20 := by
  have h2 := LOOP_all (b := m_spec_l27Memo_b1 s) (n := s.length) (fun rec k i _ => rfl) (k := fun _ => decide ((s.length : Int) ≤ 20)) (((s.length : Int) - 0 : Int).toNat + 1) 0 (by omega) (by omega) (by omega)
  have := (h2.1 h).2
  simp at this; omega
theorem memo_lenI {s : List UInt8} (h : m_impl_memoValid s = true) : s.length ≤ 20 := memo_len (by rw [← memo_eq]; exact h)

/-! ## Marks on structures -/
theorem LOOP_markt {α : Type} [Inhabited α] {f : Int → α} {s : Int} {b : (List α × Int × Int → Int × List α) → (List α × Int × Int → Int × List α) → List α × Int × Int → Int × List α} {k : List α × Int × Int → Int × List α} (hs : 0 ≤ s) (k0 : Int) (h0 : 0 ≤ k0)
    (hb : ∀ rec xs kk i, 0 ≤ i → i < (xs.length : Int) → 0 ≤ kk → kk ≤ 9223372036854770000 → b rec k (xs, kk, i) = rec (put' xs i (f kk), kk + s, i + 1)) (he : ∀ rec xs kk i, ¬ i < (xs.length : Int) → b rec k (xs, kk, i) = k (xs, kk, i)) (hk : ∀ x, k x = (x.2.1, x.1)) :
    ∀ (fuel : Nat) (xs : List α) (i : Int), 0 ≤ i → i ≤ xs.length → k0 + s * xs.length ≤ 9223372036854770000 → ((xs.length : Int) - i).toNat < fuel → (∀ j : Int, 0 ≤ j → j < i → at' xs j = f (k0 + s * j)) →
      LOOP b k fuel (xs, k0 + s * i, i) = (k0 + s * xs.length, (irange 0 xs.length).map (fun j => f (k0 + s * j)))
  | 0, _, _, _, _, _, h, _ => by omega
  | m + 1, xs, i, h1, h2, h3, h4, h5 => by
    simp only [LOOP]
    have g1 : s * i ≤ s * xs.length := Int.mul_le_mul_of_nonneg_left h2 hs
    have g0 : 0 ≤ s * i := Int.mul_nonneg hs h1
    by_cases hi : i < (xs.length : Int)
    · rw [hb _ _ _ _ h1 hi (by omega) (by omega), show k0 + s * i + s = k0 + s * (i + 1) by rw [Int.mul_add]; omega]
      have hl : (put' xs i (f (k0 + s * i))).length = xs.length := put_len
      rw [LOOP_markt hs k0 h0 hb he hk m _ (i + 1) (by omega) (by omega) (by rw [hl]; omega) (by omega) ?_, hl]
      intro j hj1 hj2
      by_cases e : j = i
      · subst e; exact put_at ⟨hj1, hi⟩
      · rw [put_at_ne h1 hj1 (fun h => e h.symm)]; exact h5 j hj1 (by omega)
    · have : i = xs.length := by omega
      subst this
      rw [he _ _ _ _ hi, hk]
      exact Prod.ext rfl (list_eq_irange rfl h5)
theorem LOOP_heldt {α : Type} [Inhabited α] {f : Int → α} {s : Int} {L : List α} {b : (Int × Int → Int) → (Int × Int → Int) → Int × Int → Int} {k : Int × Int → Int} {n : Nat} (hs : 0 ≤ s) (k0 : Int) (h0 : 0 ≤ k0) (hn : k0 + s * n ≤ 9223372036854770000) (hL : L = (irange 0 n).map (fun j => f (k0 + s * j)))
    (hb : ∀ rec kk i, 0 ≤ i → i < (n : Int) → 0 ≤ kk → kk ≤ 9223372036854770000 → at' L i = f kk → b rec k (kk, i) = rec (kk + s, i + 1)) (he : ∀ rec kk i, ¬ i < (n : Int) → b rec k (kk, i) = k (kk, i)) (hk : ∀ x, k x = x.1) :
    ∀ (fuel : Nat) (i : Int), 0 ≤ i → i ≤ n → ((n : Int) - i).toNat < fuel → LOOP b k fuel (k0 + s * i, i) = k0 + s * n
  | 0, _, _, _, h => by omega
  | m + 1, i, h1, h2, h4 => by
    simp only [LOOP]
    have g1 : s * i ≤ s * n := Int.mul_le_mul_of_nonneg_left h2 hs
    have g0 : 0 ≤ s * i := Int.mul_nonneg hs h1
    by_cases hi : i < (n : Int)
    · rw [hb _ _ _ h1 hi (by omega) (by omega) (by rw [hL, at_irange0 h1 hi]), show k0 + s * i + s = k0 + s * (i + 1) by rw [Int.mul_add]; omega]
      exact LOOP_heldt hs k0 h0 hn hL hb he hk m (i + 1) (by omega) (by omega) (by omega)
    · have : i = n := by omega
      subst this
      rw [he _ _ _ hi, hk]

/-! ## Marks on rows whose elements hold rows -/
def markL {α : Type} (mk : α → Int → Int × α) : List α → Int → Int × List α
  | [], k => (k, [])
  | e :: r, k => ((markL mk r (mk e k).1).1, (mk e k).2 :: (markL mk r (mk e k).1).2)
def heldL {α : Type} (held : α → Int → Int) : List α → Int → Int
  | [], k => k
  | e :: r, k => bif decide (held e k < 0) then (-1) else heldL held r (held e k)
theorem drop_at {α : Type} [Inhabited α] {xs : List α} {i : Int} (h : 0 ≤ i ∧ i < xs.length) : xs.drop i.toNat = at' xs i :: xs.drop (i + 1).toNat := by
  have hl : i.toNat < xs.length := by omega
  rw [List.drop_eq_getElem_cons hl, show (i + 1).toNat = i.toNat + 1 by omega]
  simp [at', List.getD_eq_getElem?_getD, hl]
theorem take_set_succ {α : Type} {v : α} : ∀ {xs : List α} {n : Nat}, n < xs.length → (xs.set n v).take (n + 1) = xs.take n ++ [v]
  | [], _, h => by simp at h
  | x :: xs, 0, _ => by simp
  | x :: xs, n + 1, h => by
    rw [List.set_cons_succ, List.take_succ_cons, take_set_succ (xs := xs) (n := n) (by simpa using h)]
    simp
theorem LOOP_markN {α : Type} [Inhabited α] {mk : α → Int → Int × α} {b : (List α × Int × Int → Int × List α) → (List α × Int × Int → Int × List α) → List α × Int × Int → Int × List α} {k : List α × Int × Int → Int × List α}
    (hb : ∀ rec xs kk i, 0 ≤ i → i < (xs.length : Int) → b rec k (xs, kk, i) = rec (put' xs i (mk (at' xs i) kk).2, (mk (at' xs i) kk).1, i + 1)) (he : ∀ rec xs kk i, ¬ i < (xs.length : Int) → b rec k (xs, kk, i) = k (xs, kk, i)) (hk : ∀ x, k x = (x.2.1, x.1)) :
    ∀ (fuel : Nat) (xs : List α) (kk i : Int), 0 ≤ i → i ≤ xs.length → ((xs.length : Int) - i).toNat < fuel → LOOP b k fuel (xs, kk, i) = ((markL mk (xs.drop i.toNat) kk).1, xs.take i.toNat ++ (markL mk (xs.drop i.toNat) kk).2)
  | 0, _, _, _, _, _, h => by omega
  | m + 1, xs, kk, i, h1, h2, h4 => by
    simp only [LOOP]
    by_cases hi : i < (xs.length : Int)
    · rw [hb _ _ _ _ h1 hi]
      have hl : (put' xs i (mk (at' xs i) kk).2).length = xs.length := put_len
      rw [LOOP_markN hb he hk m _ _ (i + 1) (by omega) (by omega) (by omega), drop_at ⟨h1, hi⟩]
      have hn : (i + 1).toNat = i.toNat + 1 := by omega
      have hlt : i.toNat < xs.length := by omega
      have e1 : (put' xs i (mk (at' xs i) kk).2).drop (i + 1).toNat = xs.drop (i + 1).toNat := by
        rw [hn]; simp only [put']; rw [List.drop_set, if_pos (by omega)]
      have e2 : (put' xs i (mk (at' xs i) kk).2).take (i + 1).toNat = xs.take i.toNat ++ [(mk (at' xs i) kk).2] := by
        rw [hn]; exact take_set_succ hlt
      rw [e1, e2]
      simp only [markL, List.append_assoc, List.singleton_append]
    · have : i = xs.length := by omega
      subst this
      rw [he _ _ _ _ hi, hk]
      simp [markL]
theorem LOOP_heldN {α : Type} [Inhabited α] {held : α → Int → Int} {L : List α} {b : (Int × Int → Int) → (Int × Int → Int) → Int × Int → Int} {k : Int × Int → Int}
    (hb : ∀ rec kk i, 0 ≤ i → i < (L.length : Int) → b rec k (kk, i) = bif decide (held (at' L i) kk < 0) then (-1) else rec (held (at' L i) kk, i + 1)) (he : ∀ rec kk i, ¬ i < (L.length : Int) → b rec k (kk, i) = k (kk, i)) (hk : ∀ x, k x = x.1) :
    ∀ (fuel : Nat) (kk i : Int), 0 ≤ i → i ≤ L.length → ((L.length : Int) - i).toNat < fuel → LOOP b k fuel (kk, i) = heldL held (L.drop i.toNat) kk
  | 0, _, _, _, _, h => by omega
  | m + 1, kk, i, h1, h2, h4 => by
    simp only [LOOP]
    by_cases hi : i < (L.length : Int)
    · rw [hb _ _ _ h1 hi, drop_at ⟨h1, hi⟩]
      simp only [heldL]
      cases decide (held (at' L i) kk < 0) with
      | true => rfl
      | false => exact LOOP_heldN hb he hk m _ (i + 1) (by omega) (by omega) (by omega)
    · have : i = L.length := by omega
      subst this
      rw [he _ _ _ hi, hk]
      simp [heldL]
theorem held_markL {α : Type} {mk : α → Int → Int × α} {held : α → Int → Int} {sz : α → Nat} {B : Int} {Q : α → Prop} (h : ∀ e kk, Q e → 0 ≤ kk → kk + sz e ≤ B → (mk e kk).1 = kk + sz e ∧ held (mk e kk).2 kk = kk + sz e) :
    ∀ (l : List α) (kk : Int), (∀ e ∈ l, Q e) → 0 ≤ kk → kk + ((l.map sz).sum : Nat) ≤ B → (markL mk l kk).1 = kk + ((l.map sz).sum : Nat) ∧ heldL held (markL mk l kk).2 kk = kk + ((l.map sz).sum : Nat)
  | [], kk, _, _, _ => by simp [markL, heldL]
  | e :: r, kk, hQ, h0, hB => by
    simp only [List.map_cons, List.sum_cons, Int.natCast_add] at hB ⊢
    obtain ⟨h1, h2⟩ := h e kk (hQ e List.mem_cons_self) h0 (by omega)
    obtain ⟨i1, i2⟩ := held_markL h r (kk + sz e) (fun x hx => hQ x (List.mem_cons_of_mem _ hx)) (by omega) (by omega)
    simp only [markL, heldL, h1, h2]
    rw [i1, i2, decide_eq_false (by omega)]
    exact ⟨by omega, by simp only [Bool.cond_false]; omega⟩
theorem sum_le {α : Type} {sz : α → Nat} {c : Nat} : ∀ {l : List α}, (∀ e ∈ l, sz e ≤ c) → (l.map sz).sum ≤ l.length * c
  | [], _ => by simp
  | e :: r, h => by
    have := sum_le (l := r) fun x hx => h x (List.mem_cons_of_mem _ hx)
    have h1 := h e List.mem_cons_self
    simp only [List.map_cons, List.sum_cons, List.length_cons, Nat.succ_mul]
    omega

/-! ## FnMerges: drawn histories, lines and common ancestors -/
def HV (list : List gVersion) : Prop := list.length ≤ 32 ∧ ∀ j : Nat, j < list.length → (at' list (j : Int)).Number = (j : Int) + 1 ∧ (0 ≤ (at' list (j : Int)).Parent ∧ (at' list (j : Int)).Parent ≤ j) ∧ m_spec_l27Memo (at' list (j : Int)).Memo = true ∧ m_spec_l27State (at' list (j : Int)).State = true
theorem hist_iff (list : List gVersion) : m_spec_l27Ok list = true ↔ HV list := by
  have h := LOOP_all (b := m_spec_l27Ok_b1 list) (n := list.length) (fun rec k i _ => rfl) (k := fun _ => decide ((list.length : Int) ≤ 32)) (((list.length : Int) - 0 : Int).toNat + 1) 0 (by omega) (by omega) (by omega)
  simp only [m_spec_l27Ok]
  rw [h]
  simp only [Bool.or_eq_false_iff, bne_eq_false_iff_eq, Bool.not_eq_false', decide_eq_true_eq, m_spec_l00In, Bool.and_eq_true]
  constructor
  · rintro ⟨h1, h2⟩
    exact ⟨by omega, fun j hj => by have := h1 j (by omega) hj; exact ⟨this.1.1.1, this.1.1.2, this.1.2, this.2⟩⟩
  · rintro ⟨h1, h2⟩
    exact ⟨fun j _ hj => by have := h2 j hj; exact ⟨⟨⟨this.1, this.2.1⟩, this.2.2.1⟩, this.2.2.2⟩, by omega⟩
theorem histI_iff (list : List gVersion) : m_impl_ValidHistory list = true ↔ HV list := by
  have h := LOOP_all (b := m_impl_ValidHistory_b1 list) (n := list.length) (fun rec k i _ => rfl) (k := fun _ => true) (((list.length : Int) - 0 : Int).toNat + 1) 0 (by omega) (by omega) (by omega)
  simp only [m_impl_ValidHistory]
  by_cases hl : 32 < (list.length : Int)
  · simp only [hl, decide_true, Bool.cond_true]
    constructor
    · intro h; exact absurd h (by decide)
    · rintro ⟨h, _⟩; omega
  · simp only [hl, decide_false, Bool.cond_false]
    rw [h]
    simp only [Bool.or_eq_false_iff, bne_eq_false_iff_eq, Bool.not_eq_false', decide_eq_true_eq, m_impl_within, Bool.and_eq_true, memo_eq, state_eq]
    constructor
    · rintro ⟨h1, h2⟩
      exact ⟨by omega, fun j hj => by have := h1 j (by omega) hj; exact ⟨this.1.1.1, this.1.1.2, this.1.2, this.2⟩⟩
    · rintro ⟨h1, h2⟩
      exact ⟨fun j _ hj => by have := h2 j hj; exact ⟨⟨⟨this.1, this.2.1⟩, this.2.2.1⟩, this.2.2.2⟩, trivial⟩
theorem at_app_lt {α : Type} [Inhabited α] {xs : List α} {y : α} {j : Nat} (h : j < xs.length) : at' (xs ++ [y]) (j : Int) = at' xs (j : Int) := by
  rw [at_lt h, at_lt (by rw [List.length_append]; omega), List.getElem_append_left h]
theorem at_app_eq {α : Type} [Inhabited α] {xs : List α} {y : α} : at' (xs ++ [y]) (xs.length : Int) = y := by
  rw [at_lt (by rw [List.length_append, List.length_singleton]; omega)]; simp
theorem HV.snoc {list : List gVersion} {p : Int} {memo : List UInt8} {st : List gSetting} (h : HV list) (hl : list.length < 32) (hp : 0 ≤ p ∧ p ≤ list.length) (hm : m_spec_l27Memo memo = true) (hs : m_spec_l27State st = true) : HV (list ++ ([gVersion.mk ((list.length : Int) + 1) p memo st] : List gVersion)) := by
  refine ⟨by rw [List.length_append, List.length_singleton]; omega, fun j hj => ?_⟩
  rw [List.length_append, List.length_singleton] at hj
  by_cases hjl : j < list.length
  · rw [at_app_lt hjl]; exact h.2 j hjl
  · have : j = list.length := by omega
    subst this
    rw [at_app_eq]
    exact ⟨rfl, hp, hm, hs⟩
theorem HV.nil : HV [] := ⟨by simp, fun j hj => by simp at hj⟩
/-! ### Lines -/
def lineF (list : List gVersion) : Nat → Int → List Int
  | 0, _ => []
  | k + 1, n => if 0 < n then n :: lineF list k (at' list (n - 1)).Parent else []
theorem HV.par {list : List gVersion} (h : HV list) {n : Int} (hn : 0 < n ∧ n ≤ list.length) : 0 ≤ (at' list (n - 1)).Parent ∧ (at' list (n - 1)).Parent ≤ n - 1 := by
  have := (h.2 (n - 1).toNat (by omega)).2.1
  rw [show (((n - 1).toNat : Nat) : Int) = n - 1 by omega] at this
  exact this
theorem line_mem {list : List gVersion} (h : HV list) : ∀ (k : Nat) (n : Int), 0 ≤ n → n ≤ list.length → ∀ x ∈ lineF list k n, 1 ≤ x ∧ x ≤ n
  | 0, _, _, _, x, hx => by simp [lineF] at hx
  | k + 1, n, h0, h1, x, hx => by
    rw [lineF] at hx
    by_cases hn : 0 < n
    · rw [if_pos hn] at hx
      have hp := h.par ⟨hn, h1⟩
      rcases List.mem_cons.1 hx with e | e
      · omega
      · have := line_mem h k _ hp.1 (by omega) x e; omega
    · rw [if_neg hn] at hx; simp at hx
theorem line_down {list : List gVersion} (h : HV list) : ∀ (k : Nat) (n : Int), 0 ≤ n → n ≤ list.length → (lineF list k n).Pairwise (fun x y => y < x)
  | 0, _, _, _ => List.Pairwise.nil
  | k + 1, n, h0, h1 => by
    rw [lineF]
    by_cases hn : 0 < n
    · rw [if_pos hn]
      have hp := h.par ⟨hn, h1⟩
      refine List.Pairwise.cons (fun x hx => ?_) (line_down h k _ hp.1 (by omega))
      have := line_mem h k _ hp.1 (by omega) x hx; omega
    · rw [if_neg hn]; exact List.Pairwise.nil
/-- the greatest number of both lines, or 0 -/
def Com (A B : List Int) (r : Int) : Prop := (r = 0 ∧ ∀ x ∈ A, x ∉ B) ∨ (r ∈ A ∧ r ∈ B ∧ ∀ x ∈ A, x ∈ B → x ≤ r)
theorem Com.swap {A B : List Int} {r : Int} (h : Com A B r) : Com B A r := by
  rcases h with ⟨h1, h2⟩ | ⟨h1, h2, h3⟩
  · exact .inl ⟨h1, fun x hx hy => h2 x hy hx⟩
  · exact .inr ⟨h2, h1, fun x hx hy => h3 x hy hx⟩
theorem Com.one {A B : List Int} {r s : Int} (h : Com A B r) (h' : Com A B s) : r = s := by
  rcases h with ⟨h1, h2⟩ | ⟨h1, h2, h3⟩ <;> rcases h' with ⟨g1, g2⟩ | ⟨g1, g2, g3⟩
  · omega
  · exact absurd g2 (h2 _ g1)
  · exact absurd h2 (g2 _ h1)
  · have := h3 _ g1 g2; have := g3 _ h1 h2; omega
theorem vcode_is {list : List gVersion} (h : HV list) {a b : Int} (ha : 1 ≤ a ∧ a ≤ list.length) (hb : 1 ≤ b ∧ b ≤ list.length) : m_impl_versionsCode list ([a, b] : List Int) = 0 := by
  have h1 : m_impl_ValidHistory list = true := (histI_iff list).2 h
  have h2 : m_impl_allWithin ([a, b] : List Int) 1 (list.length : Int) = true := allWithin_iff.2 fun y hy => by
    simp only [List.mem_cons, List.not_mem_nil, or_false] at hy
    rcases hy with rfl | rfl <;> assumption
  simp only [m_impl_versionsCode, h1, h2, Bool.not_true, Bool.cond_false]
theorem vstate_ok {list : List gVersion} (h : HV list) {n : Int} (hn : 0 ≤ n ∧ n ≤ list.length) : m_spec_l27State (m_impl_versionState list n) = true := by
  have hl := h.1
  simp only [m_impl_versionState]
  cases e : (n == 0) with
  | true => simp only [Bool.cond_true]; exact (state_iff _).2 ⟨fun e he => absurd he List.not_mem_nil, List.Pairwise.nil, by simp⟩
  | false =>
    have : n ≠ 0 := by simpa using e
    simp only [Bool.cond_false]
    rw [wr64 (by omega)]
    have := (h.2 (n - 1).toNat (by omega)).2.2.2
    rw [show (((n - 1).toNat : Nat) : Int) = n - 1 by omega] at this
    exact this
theorem with_is {list : List gVersion} {p : Int} {memo : List UInt8} {st : List gSetting} (hl : list.length < 32) : m_impl_withVersion list p memo st = (list ++ ([gVersion.mk ((list.length : Int) + 1) p memo st] : List gVersion), 0) := by
  have e : ((list.length : Int) == 32) = false := by simp; omega
  simp only [m_impl_withVersion, e, Bool.cond_false]
  have ec : m_slices_Clone_impl_Version list ++ ([gVersion.mk ((list.length : Int) + 1) p memo st] : List gVersion) = list ++ ([gVersion.mk ((list.length : Int) + 1) p memo st] : List gVersion) := by simp [m_slices_Clone_impl_Version]
  rw [ec]
  have h := LOOP_fori (b := m_impl_withVersion_b1 list p memo st) (k := fun (x1 : (List gVersion) × Int) => (x1.1, (0 : Int))) (n := ((list ++ ([gVersion.mk ((list.length : Int) + 1) p memo st] : List gVersion)).length : Int)) (fun i xs => xs ++ [at' (list ++ ([gVersion.mk ((list.length : Int) + 1) p memo st] : List gVersion)) i]) (fun rec xs i h0 h1 => by
    simp only [m_impl_withVersion_b1, ec, h1, decide_true, Bool.cond_true, m_slices_Clone_impl_Setting, List.nil_append]) (fun rec xs => by simp only [m_impl_withVersion_b1, ec]; simp) ((((list ++ ([gVersion.mk ((list.length : Int) + 1) p memo st] : List gVersion)).length : Int) - 0 : Int).toNat + 1) 0 [] (by omega) (by omega) (by omega)
  rw [h]
  simp only [Prod.mk.injEq, and_true]
  rw [fori_map, List.nil_append]
  have e2 : (((list ++ ([gVersion.mk ((list.length : Int) + 1) p memo st] : List gVersion)).length : Int) - 0).toNat = (list ++ ([gVersion.mk ((list.length : Int) + 1) p memo st] : List gVersion)).length := by omega
  rw [e2]
  exact (list_irange _).symm

/-! ## FnVersions -/
theorem vcode1 {list : List gVersion} (h : HV list) {a : Int} (ha : 1 ≤ a ∧ a ≤ list.length) : m_impl_versionsCode list ([a] : List Int) = 0 := by
  have h1 : m_impl_ValidHistory list = true := (histI_iff list).2 h
  have h2 : m_impl_allWithin ([a] : List Int) 1 (list.length : Int) = true := allWithin_iff.2 fun y hy => by
    simp only [List.mem_cons, List.not_mem_nil, or_false] at hy
    subst hy; exact ha
  simp only [m_impl_versionsCode, h1, h2, Bool.not_true, Bool.cond_false]
theorem undo_memo {n : Int} (h : 1 ≤ n ∧ n ≤ 6) : m_spec_l27Memo (([117, 110, 100, 111, 32] : List UInt8) ++ (m_impl_Decimal n)) = true := by
  have d : ∀ k : Nat, k < 10 → Lib.decDigits k = [(48 + k).toUInt8] := fun k hk => by rw [Lib.decDigits, dif_pos hk]
  have e : ∀ k : Nat, k < 10 → m_impl_Decimal (k : Int) = [(48 + k).toUInt8] := fun k hk => by
    simp only [m_impl_Decimal, m_strconv_FormatInt, Lib.itoa]
    rw [if_neg (by omega), Int.toNat_natCast, d k hk]
  have : n = 1 ∨ n = 2 ∨ n = 3 ∨ n = 4 ∨ n = 5 ∨ n = 6 := by omega
  rcases this with rfl | rfl | rfl | rfl | rfl | rfl
  · rw [show (1 : Int) = ((1 : Nat) : Int) from rfl, e 1 (by omega)]; rfl
  · rw [show (2 : Int) = ((2 : Nat) : Int) from rfl, e 2 (by omega)]; rfl
  · rw [show (3 : Int) = ((3 : Nat) : Int) from rfl, e 3 (by omega)]; rfl
  · rw [show (4 : Int) = ((4 : Nat) : Int) from rfl, e 4 (by omega)]; rfl
  · rw [show (5 : Int) = ((5 : Nat) : Int) from rfl, e 5 (by omega)]; rfl
  · rw [show (6 : Int) = ((6 : Nat) : Int) from rfl, e 6 (by omega)]; rfl
theorem undo_is {list : List gVersion} (h : HV list) {n : Int} (hn : 1 ≤ n ∧ n ≤ list.length) (hl : list.length < 32) :
    m_impl_UndoVersion list n = (list ++ ([gVersion.mk ((list.length : Int) + 1) n (([117, 110, 100, 111, 32] : List UInt8) ++ (m_impl_Decimal n)) (m_impl_versionState list (at' list (n - 1)).Parent)] : List gVersion), 0) := by
  have e0 : ((0 : Int) != 0) = false := by decide
  simp only [m_impl_UndoVersion, vcode1 h hn, e0, Bool.cond_false]
  rw [wr64 (n := n - 1) (by omega), with_is hl]
theorem vstate_at {list : List gVersion} {n : Int} (hn : 0 ≤ n ∧ n ≤ list.length) (hl : list.length ≤ 32) {v : gVersion} : m_impl_versionState (list ++ ([v] : List gVersion)) n = bif decide (0 < n) then (at' list (n - 1)).State else ([] : List gSetting) := by
  simp only [m_impl_versionState]
  by_cases h : n = 0
  · subst h; rfl
  · have e : (n == 0) = false := by simpa using h
    have e2 : (0 : Int) < n := by omega
    simp only [e, e2, decide_true, Bool.cond_false, Bool.cond_true]
    rw [wr64 (by omega)]
    have := at_app_lt (xs := list) (y := v) (j := (n - 1).toNat) (by omega)
    rw [show (((n - 1).toNat : Nat) : Int) = n - 1 by omega] at this
    rw [this]
/-! ### what the walks ask for -/
theorem histI_hv {list : List gVersion} (h : m_impl_ValidHistory list = true) : HV list := (histI_iff list).1 h
theorem histI_len {list : List gVersion} (h : m_impl_ValidHistory list = true) : list.length ≤ 32 := (histI_hv h).1
theorem within_iff {n l h : Int} (e : m_impl_within n l h = true) : l ≤ n ∧ n ≤ h := within_imp e
theorem vcode1_imp {list : List gVersion} {a : Int} (h : m_impl_versionsCode list ([a] : List Int) = 0) : HV list ∧ (1 ≤ a ∧ a ≤ list.length) := by
  simp only [m_impl_versionsCode] at h
  cases h1 : m_impl_ValidHistory list with
  | false => rw [h1] at h; simp at h
  | true =>
    rw [h1] at h
    cases h2 : m_impl_allWithin ([a] : List Int) 1 (list.length : Int) with
    | false => rw [h2] at h; simp at h
    | true => exact ⟨(histI_iff list).1 h1, allWithin_iff.1 h2 a (by simp)⟩
theorem vcode1_len {list : List gVersion} {a : Int} (h : m_impl_versionsCode list ([a] : List Int) = 0) : list.length ≤ 32 := (vcode1_imp h).1.1
theorem vcode1_hv {list : List gVersion} {a : Int} (h : m_impl_versionsCode list ([a] : List Int) = 0) : HV list := (vcode1_imp h).1
theorem vcode1_par {list : List gVersion} {a : Int} (h : m_impl_versionsCode list ([a] : List Int) = 0) : (1 ≤ a ∧ a ≤ list.length) ∧ list.length ≤ 32 ∧ IntKind.wrap .i64 (a - 1) = a - 1 ∧ 0 ≤ (at' list (a - 1)).Parent ∧ (at' list (a - 1)).Parent ≤ list.length := by
  obtain ⟨h1, h2⟩ := vcode1_imp h
  have h3 := h1.1
  have h4 := h1.par (n := a) ⟨by omega, h2.2⟩
  exact ⟨h2, h3, wr64 (by omega), h4.1, by omega⟩
theorem vstate24 {list : List gVersion} (h : HV list) {n : Int} (hn : 0 ≤ n ∧ n ≤ list.length) : (m_impl_versionState list n).length ≤ 24 := state_l24 (vstate_ok h hn)
theorem undoV_memo (list : List gVersion) (n : Int) : ∀ v ∈ (m_impl_UndoVersion list n).1, v.Memo.length ≤ 1048576 := by
  cases hd : ((m_impl_versionsCode list ([n] : List Int)) != 0) with
  | true => simp [m_impl_UndoVersion, hd]
  | false =>
    obtain ⟨hv, hn⟩ := vcode1_imp (by simpa using hd)
    have h32 := hv.1
    by_cases hl : list.length < 32
    · rw [undo_is hv hn hl]
      intro v hv'
      rw [List.mem_append, List.mem_singleton] at hv'
      rcases hv' with h | h
      · obtain ⟨j, hj, rfl⟩ := List.getElem_of_mem h
        have := (hv.2 j hj).2.2.1
        rw [at_lt hj] at this
        have := memo_len this
        omega
      · rw [h]
        have := itoa_len (n := n) (by omega)
        simp only [List.length_append, List.length_cons, List.length_nil, m_impl_Decimal, m_strconv_FormatInt]
        omega
    · have e : ((list.length : Int) == 32) = true := by simp; omega
      simp only [m_impl_UndoVersion, hd, Bool.cond_false, m_impl_withVersion, e, Bool.cond_true]
      simp
theorem vcodeG_hv {list : List gVersion} {ns : List Int} (h : m_impl_versionsCode list ns = 0) : HV list := by
  simp only [m_impl_versionsCode] at h
  cases h1 : m_impl_ValidHistory list with
  | false => rw [h1] at h; simp at h
  | true => exact (histI_iff list).1 h1
theorem vcodeG_len {list : List gVersion} {ns : List Int} (h : m_impl_versionsCode list ns = 0) : list.length ≤ 32 := (vcodeG_hv h).1
theorem decI_len {n : Int} (h : -9223372036854775808 ≤ n ∧ n ≤ 9223372036854775807) : (m_impl_Decimal n).length ≤ 20 := itoa_len h
theorem at_memo {L : List gVersion} (h : ∀ v ∈ L, v.Memo.length ≤ 1048576) (i : Int) : (at' L i).Memo.length ≤ 1048576 := by
  unfold at'
  rw [List.getD_eq_getElem?_getD]
  cases h' : L[i.toNat]? with
  | none => exact (show (0 : Nat) ≤ 1048576 by omega)
  | some v => exact h v (List.mem_of_getElem? h')
theorem decimal_len {n : Int} (hn : -9223372036854775808 ≤ n ∧ n ≤ 9223372036854775807) : (m_impl_Decimal n).length ≤ 20 := itoa_len hn

theorem decimal_eq {n : Int} (hn : -9223372036854775808 ≤ n ∧ n ≤ 9223372036854775807) : m_impl_Decimal n = m_spec_l01Dec n := (dec_eq n hn).symm

end Go.Proofs.YtdkkcemlnjlebaaDoor
