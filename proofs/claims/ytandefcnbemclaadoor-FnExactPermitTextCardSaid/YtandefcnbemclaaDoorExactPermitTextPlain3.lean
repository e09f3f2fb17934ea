/-
  PLAIN LAWS about the models: no program in sight. Conditions: as each theorem states them.
-/
import Derived.Test.YtandefcnbemclaaDoorExactPermitTextPlain2
set_option linter.unusedVariables false
set_option linter.unusedSimpArgs false
set_option linter.unusedSectionVars false
set_option linter.unnecessarySimpa false
namespace Go.Proofs.YtandefcnbemclaaDoor
open Go Go.RowKit Go.Proofs Go.Proofs.YtandefcnbemclaaDoor.E
/-! ## Decimal numerals: the reference's digits are the library's numeral; lists of numbers as text -/
theorem l00In_imp {n l h : Int} (e : m_spec_l00In n l h = true) : l ≤ n ∧ n ≤ h := by
  simpa [m_spec_l00In] using e
theorem within_imp {n l h : Int} (e : m_impl_within n l h = true) : l ≤ n ∧ n ≤ h := by
  simpa [m_impl_within] using e
def DecI (l : Nat) (m : Int) : Prop := l ≤ 19 ∧ m.natAbs < 10 ^ (19 - l)
theorem DecI.start {n : Int} (h : -9223372036854775808 ≤ n ∧ n ≤ 9223372036854775807) : DecI 0 n := ⟨by omega, by show n.natAbs < 10000000000000000000; omega⟩
theorem DecI.len {l : Nat} {m : Int} (h : DecI l m) : l ≤ 19 := h.1
theorem tdiv_abs (m : Int) : (Int.tdiv m 10).natAbs = m.natAbs / 10 := by
  rw [Int.natAbs_tdiv]; rfl
theorem DecI.wr {l : Nat} {m : Int} (h : DecI l m) : IntKind.wrap .i64 (Int.tdiv m 10) = Int.tdiv m 10 := by
  have h1 : m.natAbs < 10000000000000000000 := Nat.lt_of_lt_of_le h.2 (by
    show 10 ^ (19 - l) ≤ 10 ^ 19
    exact Nat.pow_le_pow_right (by omega) (by omega))
  have h2 := tdiv_abs m
  exact wr64 (by omega)
theorem DecI.step {a : List Int} {b m : Int} (h : DecI a.length m) (hm : ¬ m = 0) : DecI (a ++ [b]).length (IntKind.wrap .i64 (Int.tdiv m 10)) := by
  rw [h.wr]
  have h1 := h.1
  have h2 := h.2
  have hl : a.length < 19 := by
    by_cases e : a.length = 19
    · rw [e] at h2
      have : m.natAbs < 1 := h2
      omega
    · omega
  refine ⟨by simp; omega, ?_⟩
  rw [tdiv_abs]
  have e : 19 - a.length = (19 - (a ++ [b]).length) + 1 := by simp; omega
  rw [e, Nat.pow_succ] at h2
  omega
theorem dec_mu {l : Nat} {m : Int} (h : DecI l m) (hm : ¬ m = 0) : (IntKind.wrap .i64 (Int.tdiv m 10)).natAbs < m.natAbs := by
  rw [h.wr, tdiv_abs]; omega
/-- the digits, the last one first -/
def rd : Nat → Nat → List Int
  | 0, _ => []
  | k + 1, u => if u = 0 then [] else ((48 + u % 10 : Nat) : Int) :: rd k (u / 10)
theorem rd_digits : ∀ (k u : Nat), u < 10 ^ k → u ≠ 0 → chars (rd k u).reverse = Lib.decDigits u
  | 0, u, h, h0 => by simp at h; omega
  | k + 1, u, h, h0 => by
    rw [Lib.decDigits]
    simp only [rd, h0, if_false, List.reverse_cons]
    by_cases hu : u < 10
    · have e : u / 10 = 0 := by omega
      rw [dif_pos hu, e]
      have e2 : rd k 0 = [] := by cases k <;> simp [rd]
      rw [e2]
      simp only [List.reverse_nil, List.nil_append, chars, List.map_cons, List.map_nil, Int.toNat_natCast]
      rw [Nat.mod_eq_of_lt hu]
    · rw [dif_neg hu]
      have ih := rd_digits k (u / 10) (by rw [Nat.pow_succ] at h; omega) (by omega)
      simp only [chars, List.map_append, List.map_cons, List.map_nil, Int.toNat_natCast] at ih ⊢
      rw [ih]
theorem tmod_abs (m : Int) : (Int.tmod m 10).natAbs = m.natAbs % 10 := by
  rw [Int.natAbs_tmod]; rfl
theorem digit_is (m : Int) : IntKind.wrap .u8 (IntKind.wrap .i64 (48 + (((Int.tmod m 10).natAbs : Nat) : Int))) = ((48 + m.natAbs % 10 : Nat) : Int) := by
  rw [tmod_abs, wr64 (by omega), IntKind.wrap_u8]
  omega
/-- the second loop turns a row round -/
theorem dec_turn (n : Int) (x1 : List Int × Int) (v : List Int) (hv : v.length ≤ 9223372036854775807) :
    LOOP (m_spec_l01Dec_b2 n x1 v) (fun (x2 : List Int × Int) => chars x2.1) (v.length + 1) (([] : List Int), IntKind.wrap .i64 ((v.length : Int) - 1)) = chars v.reverse := by
  refine LOOP_is (fun (x : List Int × Int) => -1 ≤ x.2 ∧ x.2 < v.length ∧ x.1 = (v.drop (x.2 + 1).toNat).reverse) (fun x => (x.2 + 1).toNat) (fun _ => chars v.reverse) (fun rec x hI ih => ?_) ?_ ?_
  · obtain ⟨o, i⟩ := x
    obtain ⟨h1, h2, h3⟩ := hI
    simp only at h1 h2 h3
    simp only [m_spec_l01Dec_b2]
    by_cases hi : 0 ≤ i
    · simp only [hi, decide_true, Bool.cond_true]
      refine ih _ ⟨by simp only; omega, by simp only; omega, ?_⟩ (by simp only; omega)
      simp only
      rw [h3]
      have e1 : (i - 1 + 1).toNat = i.toNat := by omega
      have e2 : (i + 1).toNat = i.toNat + 1 := by omega
      have hlt : i.toNat < v.length := by omega
      rw [e1, e2, List.drop_eq_getElem_cons hlt, List.reverse_cons]
      congr 2
      simp [at', List.getD_eq_getElem?_getD, List.getElem?_eq_getElem hlt]
    · simp only [hi, decide_false, Bool.cond_false]
      have e : (i + 1).toNat = 0 := by omega
      rw [h3, e, List.drop_zero]
  · refine ⟨?_, ?_, ?_⟩
    · simp only; rw [wr64 (by omega)]; omega
    · simp only; rw [wr64 (by omega)]; omega
    · simp only; rw [wr64 (by omega)]
      have e : ((v.length : Int) - 1 + 1).toNat = v.length := by omega
      rw [e, List.drop_length]; rfl
  · simp only; rw [wr64 (by omega)]; omega
/-- what comes behind the first loop -/
def decEnd (n : Int) (ds : List Int) : List UInt8 := chars (if n < 0 then ds ++ [45] else ds).reverse
theorem dec_eq (n : Int) (hn : -9223372036854775808 ≤ n ∧ n ≤ 9223372036854775807) : m_spec_l01Dec n = Lib.itoa n := by
  by_cases h0 : n = 0
  · subst h0
    simp only [m_spec_l01Dec, beq_self_eq_true, Bool.cond_true, Lib.itoa]
    rw [if_neg (by omega), Lib.decDigits, dif_pos (by decide)]; rfl
  have hb : (n == 0) = false := by simpa using h0
  simp only [m_spec_l01Dec, hb, Bool.cond_false]
  have hK : ∀ x : List Int × Int, x.1.length ≤ 100 → JN (fun j11 : List Int → List UInt8 => bif decide (n < 0) then j11 (x.1 ++ ([45] : List Int)) else j11 x.1) (fun (v10 : (List Int)) => LOOP (m_spec_l01Dec_b2 n x v10) (fun (x2 : (List Int) × Int) => chars x2.1) (v10.length + 1) (([] : List Int), IntKind.wrap .i64 ((v10.length : Int) - 1))) = decEnd n x.1 := by
    intro x hx
    simp only [JN, decEnd]
    by_cases hn0 : n < 0
    · simp only [hn0, decide_true, Bool.cond_true, if_true]
      exact dec_turn n x _ (by simp; omega)
    · simp only [hn0, decide_false, Bool.cond_false, if_false]
      exact dec_turn n x _ (by omega)
  have key := LOOP_is (b := m_spec_l01Dec_b1 n) (k := fun (x1 : (List Int) × Int) => JN (fun j11 : List Int → List UInt8 => bif decide (n < 0) then j11 (x1.1 ++ ([45] : List Int)) else j11 x1.1) (fun (v10 : (List Int)) => LOOP (m_spec_l01Dec_b2 n x1 v10) (fun (x2 : (List Int) × Int) => chars x2.1) (v10.length + 1) (([] : List Int), IntKind.wrap .i64 ((v10.length : Int) - 1)))) (f := n.natAbs + 1) (x := (([] : List Int), n))
    (fun (x : List Int × Int) => DecI x.1.length x.2) (fun x => x.2.natAbs) (fun x => decEnd n (x.1 ++ rd (19 - x.1.length) x.2.natAbs)) (fun rec x hI ih => ?_) (DecI.start hn) (by simp)
  · rw [key]
    simp only [List.nil_append, List.length_nil, Nat.sub_zero, decEnd, Lib.itoa]
    have hr := rd_digits 19 n.natAbs (by show n.natAbs < 10000000000000000000; omega) (by omega)
    by_cases hn0 : n < 0
    · simp only [hn0, if_true, List.reverse_append, List.reverse_cons, List.reverse_nil, List.nil_append]
      rw [← hr]; rfl
    · simp only [hn0, if_false]
      rw [hr]; congr 1; omega
  · obtain ⟨ds, m⟩ := x
    simp only at hI
    simp only [m_spec_l01Dec_b1]
    by_cases hm : m = 0
    · subst hm
      simp only [bne_self_eq_false, Bool.cond_false, Int.natAbs_zero]
      rw [hK (ds, 0) (by have := hI.1; simp only; omega)]
      have e2 : rd (19 - ds.length) 0 = [] := by cases (19 - ds.length) <;> simp [rd]
      rw [e2, List.append_nil]
    · have hb2 : (m != 0) = true := by simpa using hm
      have hst := hI.step (b := ((48 + m.natAbs % 10 : Nat) : Int)) hm
      have e : (bif decide (Int.tmod m 10 < 0) then IntKind.wrap .i64 (0 - Int.tmod m 10) else Int.tmod m 10) = (((Int.tmod m 10).natAbs : Nat) : Int) := by
        have := tmod_abs m
        by_cases h : Int.tmod m 10 < 0
        · simp only [h, decide_true, Bool.cond_true]; rw [wr64 (by omega)]; omega
        · simp only [h, decide_false, Bool.cond_false]; omega
      have e' : ∀ (j : Int → List UInt8), (bif decide (Int.tmod m 10 < 0) then j (IntKind.wrap .i64 (0 - Int.tmod m 10)) else j (Int.tmod m 10)) = j (((Int.tmod m 10).natAbs : Nat) : Int) := by
        intro j; rw [← e]; cases decide (Int.tmod m 10 < 0) <;> rfl
      simp only [hb2, Bool.cond_true, JN]
      refine (e' (fun v5 => rec (ds ++ [IntKind.wrap .u8 (IntKind.wrap .i64 (48 + v5))], IntKind.wrap .i64 (Int.tdiv m 10)))).trans ?_
      rw [digit_is]
      rw [ih (ds ++ [((48 + m.natAbs % 10 : Nat) : Int)], IntKind.wrap .i64 (Int.tdiv m 10)) hst (dec_mu hI hm)]
      simp only
      rw [hI.wr, tdiv_abs]
      have hl : ds.length < 19 := by have h1 := hst.1; simp at h1; omega
      have e3 : 19 - ds.length = (19 - (ds.length + 1)) + 1 := by omega
      have hm' : m.natAbs ≠ 0 := by omega
      rw [List.length_append, List.length_cons, List.length_nil, e3]
      simp only [rd, hm', if_false, List.append_assoc, List.cons_append, List.nil_append]
theorem digits_len : ∀ (k u : Nat), u < 10 ^ (k + 1) → (Lib.decDigits u).length ≤ k + 1
  | 0, u, h => by rw [Lib.decDigits, dif_pos (by simpa using h)]; simp
  | k + 1, u, h => by
    rw [Lib.decDigits]
    split
    · simp
    · have := digits_len k (u / 10) (by rw [Nat.pow_succ] at h; omega)
      simp; omega
theorem itoa_len {n : Int} (hn : -9223372036854775808 ≤ n ∧ n ≤ 9223372036854775807) : (Lib.itoa n).length ≤ 20 := by
  unfold Lib.itoa
  split
  · have := digits_len 18 n.natAbs (by show n.natAbs < 10000000000000000000; omega)
    simp; omega
  · have := digits_len 18 n.toNat (by show n.toNat < 10000000000000000000; omega)
    omega
theorem dec_len {n : Int} (hn : -9223372036854775808 ≤ n ∧ n ≤ 9223372036854775807) : (m_spec_l01Dec n).length ≤ 20 := by rw [dec_eq n hn]; exact itoa_len hn

end Go.Proofs.YtandefcnbemclaaDoor
