/-
  PLAIN LAWS about the models: no program in sight. Conditions: as each theorem states them.
-/
import Derived.Test.YtceonolphigfdaaDoorExactReadPermitPlain7
set_option linter.unusedVariables false
set_option linter.unusedSimpArgs false
set_option linter.unusedSectionVars false
set_option linter.unnecessarySimpa false
namespace Go.Proofs.YtceonolphigfdaaDoor
open Go Go.RowKit Go.Proofs Go.Proofs.YtceonolphigfdaaDoor.E
/-! ## The reference's cuts, numbers and lists -/
def ahead (p : List UInt8) : List (List UInt8) → List (List UInt8)
  | [] => [p]
  | h :: t => (p ++ h) :: t
theorem ahead_nil {l : List (List UInt8)} (h : l ≠ []) : ahead [] l = l := by
  cases l with
  | nil => exact absurd rfl h
  | cons x t => rfl
theorem cut_same (s : List UInt8) (a : Int) : cut' s a a = [] := by simp [cut']
theorem cut_next {s : List UInt8} {a i : Int} (h0 : 0 ≤ a) (h1 : a ≤ i) (h2 : i < s.length) : cut' s a (i + 1) = cut' s a i ++ [s.getD i.toNat 0] := by
  have hlt : i.toNat < s.length := by omega
  have e : (i + 1).toNat - a.toNat = (i.toNat - a.toNat) + 1 := by omega
  simp only [cut', e]
  have hl : i.toNat - a.toNat < (s.drop a.toNat).length := by rw [List.length_drop]; omega
  rw [List.take_succ_eq_append_getElem hl, List.getElem_drop]
  congr 2
  have e2 : a.toNat + (i.toNat - a.toNat) = i.toNat := by omega
  simp only [e2]
  simp [List.getD_eq_getElem?_getD, List.getElem?_eq_getElem hlt]
theorem split_eq (s : List UInt8) (c : UInt8) : m_spec_l01Split s ((c.toNat : Nat) : Int) = spl c s := by
  simp only [m_spec_l01Split]
  refine LOOP_is (fun (x : List (List UInt8) × Int × Int) => 0 ≤ x.2.1 ∧ x.2.1 ≤ x.2.2 ∧ x.2.2 ≤ s.length ∧ x.1 ++ ahead (cut' s x.2.1 x.2.2) (spl c (s.drop x.2.2.toNat)) = spl c s) (fun x => ((s.length : Int) - x.2.2).toNat) (fun _ => spl c s) (fun rec x hI ih => ?_) ⟨by simp, by simp, by simp, by simp only [List.nil_append, cut_same, Int.toNat_zero, List.drop_zero]; exact ahead_nil (spl_ne c s)⟩ (by simp)
  obtain ⟨o, a, i⟩ := x
  obtain ⟨h0, h1, h2, h3⟩ := hI
  simp only at h0 h1 h2 h3
  simp only [m_spec_l01Split_b1]
  by_cases hi : i < (s.length : Int)
  · have hlt : i.toNat < s.length := by omega
    have hd : s.drop i.toNat = s.getD i.toNat 0 :: s.drop (i.toNat + 1) := by
      rw [List.drop_eq_getElem_cons hlt]; simp [List.getD_eq_getElem?_getD, List.getElem?_eq_getElem hlt]
    have e1 : (i + 1).toNat = i.toNat + 1 := by omega
    rw [hd] at h3
    simp only [hi, decide_true, Bool.cond_true]
    generalize hb : s.getD i.toNat 0 = b at h3 ⊢
    by_cases hc : b = c
    · have hbc : ((((b.toNat : Nat) : Int)) == ((c.toNat : Nat) : Int)) = true := by rw [hc]; simp
      rw [hbc, Bool.cond_true]
      refine ih _ ⟨by simp only; omega, by simp only; omega, by simp only; omega, ?_⟩ (by simp only; omega)
      simp only [cut_same, e1]
      rw [ahead_nil (spl_ne c _), ← h3]
      simp [spl, hc, ahead]
    · have hbc : ((((b.toNat : Nat) : Int)) == ((c.toNat : Nat) : Int)) = false := by
        rw [beq_eq_false_iff_ne]; intro e; exact hc (UInt8.toNat_inj.1 (by omega))
      rw [hbc, Bool.cond_false]
      refine ih _ ⟨by simp only; omega, by simp only; omega, by simp only; omega, ?_⟩ (by simp only; omega)
      simp only
      rw [e1, cut_next h0 h1 hi, hb, ← h3]
      obtain ⟨h, t, e⟩ : ∃ h t, spl c (s.drop (i.toNat + 1)) = h :: t := by
        cases e : spl c (s.drop (i.toNat + 1)) with
        | nil => exact absurd e (spl_ne c _)
        | cons x t => exact ⟨x, t, rfl⟩
      rw [spl_cons hc e, e]
      simp [ahead]
  · simp only [hi, decide_false, Bool.cond_false]
    have e : i = (s.length : Int) := by omega
    subst e
    rw [← h3]
    simp [spl, ahead]
def fin1 (v : Int) (w : Nat) : Int × Bool := if v = 1 then (-(w : Int), true) else ((w : Int), true)
theorem num_loop (s : List UInt8) (v : Int) (hv : 0 ≤ v ∧ v ≤ s.length) (hl : (s.length : Int) - v ≤ 18) :
    LOOP (m_spec_l01Number_b1 s v) (fun (x1 : Int × Int) => bif v == 1 then (IntKind.wrap .i64 (0 - x1.1), true) else (x1.1, true)) (((s.length : Int) - v : Int).toNat + 1) (0, v) =
      open Classical in if (∀ c ∈ s.drop v.toNat, dig c) then fin1 v (val 0 (s.drop v.toNat)) else (0, false) := by
  have h18 : (10 : Nat) ^ 18 = 1000000000000000000 := by decide
  have key := LOOP_is (b := m_spec_l01Number_b1 s v) (k := fun (x1 : Int × Int) => bif v == 1 then (IntKind.wrap .i64 (0 - x1.1), true) else (x1.1, true)) (f := ((s.length : Int) - v : Int).toNat + 1) (x := ((0 : Int), v))
    (fun (x : Int × Int) => v ≤ x.2 ∧ x.2 ≤ s.length ∧ 0 ≤ x.1 ∧ (x.1.toNat + 1) * 10 ^ (s.length - x.2.toNat) ≤ 1000000000000000000) (fun x => ((s.length : Int) - x.2).toNat)
    (fun x => open Classical in if (∀ c ∈ s.drop x.2.toNat, dig c) then fin1 v (val x.1.toNat (s.drop x.2.toNat)) else (0, false)) (fun rec x hI ih => ?_) ⟨by simp, by simp; omega, by simp, ?_⟩ (by simp)
  · rw [key]; rfl
  · obtain ⟨a, i⟩ := x
    obtain ⟨h0, h1, h2, h3⟩ := hI
    simp only at h0 h1 h2 h3
    simp only [m_spec_l01Number_b1]
    have hone : 1 ≤ 10 ^ (s.length - i.toNat) := Nat.pow_pos (by omega)
    have ha : a.toNat + 1 ≤ 1000000000000000000 := Nat.le_trans (Nat.le_mul_of_pos_right _ hone) h3
    by_cases hi : i < (s.length : Int)
    · have hlt : i.toNat < s.length := by omega
      have hd : s.drop i.toNat = s.getD i.toNat 0 :: s.drop (i.toNat + 1) := by
        rw [List.drop_eq_getElem_cons hlt]; simp [List.getD_eq_getElem?_getD, List.getElem?_eq_getElem hlt]
      have e1 : (i + 1).toNat = i.toNat + 1 := by omega
      simp only [hi, decide_true, Bool.cond_true]
      have hval : val a.toNat (s.drop i.toNat) = val a.toNat (s.getD i.toNat 0 :: s.drop (i.toNat + 1)) := by rw [← hd]
      rw [hval]
      have hd' := hd
      generalize s.getD i.toNat 0 = b at hd' ⊢
      by_cases hb : dig b
      · have hdg : m_spec_l01Digit ((b.toNat : Nat) : Int) = true := by
          simp only [m_spec_l01Digit, Bool.and_eq_true, decide_eq_true_eq]; have := hb.1; have := hb.2; omega
        have hb1 := hb.1; have hb2 := hb.2
        have hpw : 10 ^ (s.length - i.toNat) = 10 ^ (s.length - (i.toNat + 1)) * 10 := by
          rw [← Nat.pow_succ]; congr 1; omega
        have hA : 10 * a.toNat + (b.toNat - 48) + 1 ≤ (a.toNat + 1) * 10 := by omega
        have hB : (10 * a.toNat + (b.toNat - 48) + 1) * 10 ^ (s.length - (i.toNat + 1)) ≤ 1000000000000000000 := by
          refine Nat.le_trans (Nat.mul_le_mul_right _ hA) ?_
          rw [Nat.mul_assoc, Nat.mul_comm 10, ← hpw]; exact h3
        have hone' : 1 ≤ 10 ^ (s.length - (i.toNat + 1)) := Nat.pow_pos (by omega)
        have hC : 10 * a.toNat + (b.toNat - 48) + 1 ≤ 1000000000000000000 := Nat.le_trans (Nat.le_mul_of_pos_right _ hone') hB
        have ew : IntKind.wrap .i64 ((IntKind.wrap .i64 (10 * a)) + (IntKind.wrap .i64 (IntKind.wrap .u8 (((b.toNat : Nat) : Int) - 48)))) = ((10 * a.toNat + (b.toNat - 48) : Nat) : Int) := by
          have e0 : IntKind.wrap .u8 (((b.toNat : Nat) : Int) - 48) = ((b.toNat : Nat) : Int) - 48 := by rw [IntKind.wrap_u8]; omega
          rw [e0, wr64 (n := 10 * a) (by omega), wr64 (n := ((b.toNat : Nat) : Int) - 48) (by omega), wr64 (by omega)]; omega
        simp only [hdg, Bool.not_true, Bool.cond_false, ew]
        rw [ih _ ⟨by simp only; omega, by simp only; omega, by simp only; omega, by simp only [e1, Int.toNat_natCast]; exact hB⟩ (by simp only; omega)]
        have hiff : (∀ c ∈ s.drop i.toNat, dig c) ↔ (∀ c ∈ s.drop (i + 1).toNat, dig c) := by rw [hd', e1]; simp [hb]
        by_cases ht : ∀ c ∈ s.drop (i + 1).toNat, dig c
        · rw [if_pos ht, if_pos (hiff.2 ht)]; simp only; rw [e1]; rfl
        · rw [if_neg ht, if_neg (fun h => ht (hiff.1 h))]
      · have hdg : m_spec_l01Digit ((b.toNat : Nat) : Int) = false := by
          rw [← Bool.not_eq_true]; intro e
          simp only [m_spec_l01Digit, Bool.and_eq_true, decide_eq_true_eq] at e
          exact hb ⟨by omega, by omega⟩
        simp only [hdg, Bool.not_false, Bool.cond_true]
        rw [if_neg]
        rw [hd']; intro h; exact hb (h b (by simp))
    · have e : s.drop i.toNat = [] := List.drop_eq_nil_of_le (by omega)
      rw [if_pos (by rw [e]; intro c hc; exact absurd hc (List.not_mem_nil)), e]
      show (bif decide (i < (s.length : Int)) then _ else _) = fin1 v a.toNat
      have hdi : decide (i < (s.length : Int)) = false := decide_eq_false hi
      rw [hdi, Bool.cond_false]
      unfold fin1
      by_cases hv1 : v = 1
      · have : (v == 1) = true := by rw [hv1]; rfl
        rw [this, Bool.cond_true, if_pos hv1, wr64 (n := 0 - a) (by omega)]
        have e2 : 0 - a = -((a.toNat : Nat) : Int) := by omega
        rw [e2]
      · have : (v == 1) = false := beq_eq_false_iff_ne.2 hv1
        rw [this, Bool.cond_false, if_neg hv1]
        have e2 : a = ((a.toNat : Nat) : Int) := by omega
        rw [← e2]
  · simp only [Int.toNat_zero, Nat.zero_add, Nat.one_mul]
    refine Nat.le_trans (Nat.pow_le_pow_right (by omega) (show s.length - v.toNat ≤ 18 by omega)) (by rw [h18]; exact Nat.le_refl _)
theorem isNum_shape {s : List UInt8} {n : Int} (h : isNum s n) : (n < 0 ∧ s = 45 :: Lib.decDigits n.natAbs) ∨ (0 ≤ n ∧ s = Lib.decDigits n.natAbs) := by
  rw [h.1]
  unfold Lib.itoa
  split
  · rename_i hn; exact .inl ⟨hn, rfl⟩
  · rename_i hn; exact .inr ⟨by omega, by rw [show n.toNat = n.natAbs by omega]⟩
/-- what comes behind the sign's test -/
def numBody (s : List UInt8) (v : Int) : Int × Bool := bif ((((s.length : Int) == v) || (decide (18 < (IntKind.wrap .i64 ((s.length : Int) - v))))) || (((((s.getD v.toNat 0).toNat : Nat) : Int) == 48) && (decide (1 < (s.length : Int))))) then ((0 : Int), false) else LOOP (m_spec_l01Number_b1 s v) (fun (x1 : Int × Int) => bif v == 1 then (IntKind.wrap .i64 (0 - x1.1), true) else (x1.1, true)) (((s.length : Int) - v : Int).toNat + 1) (0, v)
theorem number_is (s : List UInt8) (hs : s.length ≤ 1000000000) : (∃ n, isNum s n ∧ m_spec_l01Number s = (n, true)) ∨ ((∀ n, ¬ isNum s n) ∧ m_spec_l01Number s = (0, false)) := by
  cases s with
  | nil =>
    refine .inr ⟨fun n h => ?_, rfl⟩
    rcases isNum_shape h with ⟨_, e⟩ | ⟨_, e⟩
    · simp at e
    · exact decDigits_ne _ e.symm
  | cons b r =>
    have hv : ∀ (j : Int → Int × Bool), (bif (decide (0 < ((b :: r).length : Int))) && (((((b :: r).getD (0 : Int).toNat 0).toNat : Nat) : Int) == 45) then j 1 else j 0) = j (if b = 45 then 1 else 0) := by
      intro j
      have e1 : decide (0 < ((b :: r).length : Int)) = true := by rw [decide_eq_true_eq, List.length_cons]; omega
      have e2 : (b :: r).getD (0 : Int).toNat 0 = b := rfl
      rw [e1, e2, Bool.true_and]
      by_cases hb : b = 45
      · subst hb; rfl
      · have : (((b.toNat : Nat) : Int) == 45) = false := by
          rw [beq_eq_false_iff_ne]; intro e; exact hb (UInt8.toNat_inj.1 (by rw [show (45 : UInt8).toNat = 45 from rfl]; omega))
        rw [this, if_neg hb]; rfl
    have hN : m_spec_l01Number (b :: r) = numBody (b :: r) (if b = 45 then 1 else 0) := hv (numBody (b :: r))
    rw [hN]
    have key : ∀ (v : Int), (v = if b = 45 then 1 else 0) → ∀ d, d = (b :: r).drop v.toNat →
        (∃ n, isNum (b :: r) n ∧ numBody (b :: r) v = (n, true)) ∨ ((∀ n, ¬ isNum (b :: r) n) ∧ numBody (b :: r) v = (0, false)) := by
      intro v hv d hd
      have hv01 : v = 0 ∨ v = 1 := by rw [hv]; split <;> simp
      have hlb : (b :: r).length = r.length + 1 := rfl
      have hdl : (d.length : Int) = (b :: r).length - v := by rw [hd, List.length_drop]; omega
      -- what a numeral would be
      have hnum : ∀ n, isNum (b :: r) n → d = Lib.decDigits n.natAbs ∧ ((v = 1 ∧ n < 0) ∨ (v = 0 ∧ 0 ≤ n)) := by
        intro n hn
        rcases isNum_shape hn with ⟨h1, e⟩ | ⟨h1, e⟩
        · have hb : b = 45 := by injection e
          have hr : r = Lib.decDigits n.natAbs := by injection e
          rw [if_pos hb] at hv
          exact ⟨by rw [hd, hv]; exact hr, .inl ⟨hv, h1⟩⟩
        · have hb : ¬ b = 45 := by
            intro hb
            have := decDigits_dig n.natAbs b (by rw [← e]; simp)
            rw [hb] at this; exact absurd this.1 (by decide)
          rw [if_neg hb] at hv
          exact ⟨by rw [hd, hv]; exact e, .inr ⟨hv, h1⟩⟩
      have hget : d ≠ [] → (b :: r).getD v.toNat 0 = d.headD 0 := by
        intro hne
        rcases hv01 with rfl | rfl
        · rw [hd]; rfl
        · rw [hd]; cases r <;> rfl
      unfold numBody
      rw [wr64 (n := ((b :: r).length : Int) - v) (by rw [hlb] at hs ⊢; omega)]
      by_cases h1 : d = []
      · refine .inr ⟨fun n hn => decDigits_ne _ ((hnum n hn).1.symm.trans h1), ?_⟩
        have : (((b :: r).length : Int) == v) = true := by rw [beq_iff_eq]; rw [h1, List.length_nil] at hdl; omega
        simp only [this, Bool.true_or, Bool.cond_true]
      by_cases h2 : 18 < d.length
      · refine .inr ⟨fun n hn => ?_, ?_⟩
        · have h3 := (hnum n hn).1
          have h4 := decDigits_small hn.2
          rw [← h3] at h4; omega
        · have : decide (18 < ((b :: r).length : Int) - v) = true := by rw [decide_eq_true_eq]; omega
          simp only [this, Bool.or_true, Bool.true_or, Bool.cond_true]
      by_cases h3 : d.headD 0 = 48 ∧ 1 < (b :: r).length
      · refine .inr ⟨fun n hn => ?_, ?_⟩
        · obtain ⟨e, hs⟩ := hnum n hn
          have hh : d.head? = some 48 := by
            cases d with
            | nil => exact absurd rfl h1
            | cons x t => simpa using h3.1
          by_cases hn0 : 1 ≤ n.natAbs
          · rw [e] at hh; exact decDigits_head hn0 hh
          · have h0 : n.natAbs = 0 := by omega
            have : d.length = 1 := by rw [e, h0, Lib.decDigits]; rfl
            rcases hs with ⟨rfl, h⟩ | ⟨rfl, h⟩
            · omega
            · have := h3.2; omega
        · have e1 : (((((b :: r).getD v.toNat 0).toNat : Nat) : Int) == 48) = true := by rw [hget h1, h3.1]; rfl
          have e2 : decide (1 < ((b :: r).length : Int)) = true := by rw [decide_eq_true_eq]; have := h3.2; omega
          simp only [e1, e2, Bool.and_self, Bool.or_true, Bool.cond_true]
      have c1 : (((b :: r).length : Int) == v) = false := by
        rw [beq_eq_false_iff_ne]; intro e; exact h1 (List.length_eq_zero_iff.1 (by omega))
      have c2 : decide (18 < ((b :: r).length : Int) - v) = false := by rw [decide_eq_false_iff_not]; omega
      have c3 : ((((((b :: r).getD v.toNat 0).toNat : Nat) : Int) == 48) && (decide (1 < ((b :: r).length : Int)))) = false := by
        rw [← Bool.not_eq_true]; intro e
        simp only [Bool.and_eq_true, beq_iff_eq, decide_eq_true_eq] at e
        rw [hget h1] at e
        exact h3 ⟨UInt8.toNat_inj.1 (by rw [show (48 : UInt8).toNat = 48 from rfl]; omega), by omega⟩
      rw [c1, c2, c3]
      simp only [Bool.or_self, Bool.cond_false]
      rw [num_loop (b :: r) v (by rcases hv01 with rfl | rfl <;> simp <;> omega) (by omega), ← hd]
      by_cases hall : ∀ c ∈ d, dig c
      · rw [if_pos hall]
        have hlt := val_lt d 0 hall
        have h18 : (10 : Nat) ^ d.length ≤ 10 ^ 18 := Nat.pow_le_pow_right (by omega) (by omega)
        have h18' : (10 : Nat) ^ 18 = 1000000000000000000 := by decide
        have hw : val 0 d < 1000000000000000000 := by omega
        have hcan : Lib.decDigits (val 0 d) = d := digits_val d.length d rfl h1 hall (by
          by_cases hh : d.head? = some 48
          · right
            have hh2 : d.headD 0 = 48 := by cases d with | nil => simp at hh | cons x t => simpa using hh
            have h4 : (b :: r).length ≤ 1 := by
              have : ¬ 1 < (b :: r).length := fun h => h3 ⟨hh2, h⟩
              omega
            have : d.length ≠ 0 := fun e => h1 (List.length_eq_zero_iff.1 e)
            omega
          · exact .inl hh)
        rcases hv01 with h0 | h0
        · left
          refine ⟨(val 0 d : Int), ⟨?_, by simpa using hw⟩, by simp [fin1, h0]⟩
          have e : b :: r = d := by rw [hd, h0]; rfl
          rw [e]; unfold Lib.itoa
          rw [if_neg (by omega), show ((val 0 d : Nat) : Int).toNat = val 0 d by omega, hcan]
        · left
          have hb : b = 45 := by
            by_cases hb : b = 45
            · exact hb
            · rw [if_neg hb] at hv; omega
          have hr : r = d := by rw [hd, h0]; rfl
          have hv1 : 1 ≤ val 0 d := by
            cases hdd : d with
            | nil => exact absurd hdd h1
            | cons x t =>
              have hx := hall x (by rw [hdd]; simp)
              have hx48 : x.toNat ≠ 48 := by
                intro e
                refine h3 ⟨?_, ?_⟩
                · rw [hdd]; exact UInt8.toNat_inj.1 e
                · rw [hlb, hr, hdd]; simp
              exact Nat.le_trans (by have := hx.1; omega) (val_ge t (10 * 0 + (x.toNat - 48)))
          refine ⟨-(val 0 d : Int), ⟨?_, by simpa using hw⟩, by simp [fin1, h0]⟩
          unfold Lib.itoa
          rw [if_pos (by omega), show (-((val 0 d : Nat) : Int)).natAbs = val 0 d by omega, hcan, hb, hr]
      · rw [if_neg hall]
        refine .inr ⟨fun n hn => hall ?_, rfl⟩
        rw [(hnum n hn).1]; exact decDigits_dig _
    exact key _ rfl _ rfl
theorem decimal_read (s : List UInt8) (hs : s.length ≤ 1000000000) : m_impl_ReadDecimal s = m_spec_l01Number s := by
  rcases number_is s hs with ⟨n, hn, e⟩ | ⟨hn, e⟩
  · rw [e]
    have hp : m_strconv_ParseInt s 10 64 = (n, false) := by
      unfold m_strconv_ParseInt; rw [hn.1, parse_itoa hn.2]
    have ht : (m_strings_TrimPrefix s [45]).length ≤ 18 := by
      unfold m_strings_TrimPrefix; rw [hn.1, trim_len]; exact decDigits_small hn.2
    have hd : m_impl_Decimal n = s := hn.1.symm
    simp only [m_impl_ReadDecimal, hp, hd, strB_neq_self]
    have : decide (18 < ((m_strings_TrimPrefix s [45]).length : Int)) = false := by rw [decide_eq_false_iff_not]; omega
    rw [this]; rfl
  · rw [e]
    simp only [m_impl_ReadDecimal]
    cases hc : (((m_strconv_ParseInt s 10 64).2 || (decide (18 < ((m_strings_TrimPrefix s ([45] : List UInt8)).length : Int)))) || (strB .neq (m_impl_Decimal (m_strconv_ParseInt s 10 64).1) s)) with
    | true => rfl
    | false =>
      exfalso
      simp only [Bool.or_eq_false_iff, decide_eq_false_iff_not] at hc
      have hs : m_impl_Decimal (m_strconv_ParseInt s 10 64).1 = s := by
        have h2 := hc.2
        simp only [strB, Bool.not_eq_false', beq_iff_eq] at h2; exact h2
      refine hn (m_strconv_ParseInt s 10 64).1 ⟨hs.symm, ?_⟩
      have ht := hc.1.2
      have hs' : Lib.itoa (m_strconv_ParseInt s 10 64).1 = s := hs
      unfold m_strings_TrimPrefix at ht
      have ht2 : (Lib.trimPrefix s [45]).length = (Lib.decDigits (m_strconv_ParseInt s 10 64).1.natAbs).length := by
        have := trim_len (n := (m_strconv_ParseInt s 10 64).1)
        rw [hs'] at this; exact this
      exact decDigits_big (by omega)

end Go.Proofs.YtceonolphigfdaaDoor
