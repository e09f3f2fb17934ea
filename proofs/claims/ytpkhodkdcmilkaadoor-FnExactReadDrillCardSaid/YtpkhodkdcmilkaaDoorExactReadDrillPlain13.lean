/-
  PLAIN LAWS about the models: no program in sight. Conditions: as each theorem states them.
-/
import Derived.Test.YtpkhodkdcmilkaaDoorExactReadDrillPlain12
set_option linter.unusedVariables false
set_option linter.unusedSimpArgs false
set_option linter.unusedSectionVars false
set_option linter.unnecessarySimpa false
namespace Go.Proofs.YtpkhodkdcmilkaaDoor
open Go Go.RowKit Go.Proofs Go.Proofs.YtpkhodkdcmilkaaDoor.E
theorem valid_eq (c : gDrill) : m_impl_Drill_valid c = m_spec_l28One c := by
  simp only [m_impl_Drill_valid, m_spec_l28One, m_spec_l28Day, name_eq]; rfl
theorem one_len {c : gDrill} (h : m_spec_l28One c = true) : c.Crew.length ≤ 10 := by
  simp only [m_spec_l28One, Bool.and_eq_true] at h
  exact name_len (by simp only [h])
theorem one_day {c : gDrill} (h : m_spec_l28One c = true) : 0 ≤ c.Day ∧ c.Day ≤ 100000 := by
  simp only [m_spec_l28One, m_spec_l28Day, m_spec_l00In, Bool.and_eq_true, decide_eq_true_eq] at h
  omega
theorem valid_len {c : gDrill} (h : m_impl_Drill_valid c = true) : c.Crew.length ≤ 10 := one_len (by rw [← valid_eq]; exact h)
theorem valid_day {c : gDrill} (h : m_impl_Drill_valid c = true) : 0 ≤ c.Day ∧ c.Day ≤ 100000 := one_day (by rw [← valid_eq]; exact h)
theorem dtx_len {n : Int} (hn : -9223372036854775808 ≤ n ∧ n ≤ 9223372036854775807) : (m_impl_Decimal n).length ≤ 20 := itoa_len hn
theorem ReadDrill_eq (s : List UInt8) (hs : s.length ≤ 1048576) : m_impl_ReadDrill s = m_spec_ReadDrill s := by
  simp only [m_impl_ReadDrill, m_spec_ReadDrill, m_spec_l28Read, m_strings_Split, split_spl, spl32]
  by_cases h3 : ((spl 32 s).length : Int) = 3
  · obtain ⟨p, q, r, e, es⟩ := three_cut h3
    rw [e]
    have hb : ((([p, q, r] : List (List UInt8)).length : Int) != 3) = false := rfl
    have e0 : at' ([p, q, r] : List (List UInt8)) 0 = p := rfl
    have e1 : at' ([p, q, r] : List (List UInt8)) 1 = q := rfl
    have e2 : at' ([p, q, r] : List (List UInt8)) 2 = r := rfl
    have hl : s.length = p.length + (q.length + (r.length + 1) + 1) := by rw [es]; simp
    have hpl : p.length ≤ 1048576 := by omega
    have hrl : r.length ≤ 1048576 := by omega
    have hsn : s ≠ [] := by rw [es]; simp
    simp only [hb, e0, e1, e2, Bool.cond_false, decimal_read p (by omega), m_impl_DrillText, valid_eq]
    cases hn : (m_spec_l01Number p).2 with
    | false => simp
    | true =>
      simp only [Bool.not_true, Bool.false_or]
      rcases readNumbers_is r hrl 3 with ⟨h1, h2, h4⟩ | ⟨h1, h2⟩
      · rw [h4]
        have hk := three_at h2
        have hne : (m_spec_ReadList r).1 ≠ [] := fun e => by rw [e] at h2; simp at h2
        have ht := readList_text hrl h1 hne
        have hb2 : (((m_spec_ReadList r).1.length : Int) != 3) = false := by simpa using h2
        simp only [h1, hb2, Bool.not_true, Bool.or_self, Bool.cond_false, Bool.false_or]
        generalize hL : (m_spec_ReadList r).1 = L at hk ht
        cases hv : m_spec_l28One (gDrill.mk (m_spec_l01Number p).1 q (at' L 0) (at' L 1) (at' L 2)) with
        | false => simp only [Bool.not_false, Bool.cond_true, neq_nil hsn]
        | true =>
          simp only [Bool.not_true, Bool.cond_false]
          have hi : m_impl_Decimal (m_spec_l01Number p).1 = p := (num_ok (by omega) hn).1
          have hx : (((m_impl_Decimal (m_spec_l01Number p).1 ++ ([32] : List UInt8)) ++ q) ++ ([32] : List UInt8)) ++ m_impl_ListText ([at' L 0, at' L 1, at' L 2] : List Int) = s := by
            rw [hi, ← hk, ht, es]; simp
          rw [hx, strB_neq_self]; rfl
      · rw [h1, h2]; rfl
  · have : (((spl 32 s).length : Int) != 3) = true := by rw [bne_iff_ne]; exact h3
    rw [this]; rfl
theorem law_FnExactReadDrill (aS : List UInt8) (hp1 : aS.length ≤ 9223372036854775807) : m_laws_FnExactReadDrill aS = true := by
  simp only [m_laws_FnExactReadDrill]
  by_cases h1 : 1048576 < (aS.length : Int)
  · simp [h1]
  · simp [h1, ReadDrill_eq aS (by omega), eqDrill_refl]

end Go.Proofs.YtpkhodkdcmilkaaDoor
