/-
  PLAIN LAWS about the models: no program in sight. Conditions: as each theorem states them.
-/
import Derived.Test.YtlbpjgeoaiiamaaMergesPlain10
set_option linter.unusedVariables false
set_option linter.unusedSimpArgs false
set_option linter.unusedSectionVars false
set_option linter.unnecessarySimpa false
namespace Go.Proofs.Ytlbpjgeoaiiamaa
open Go Go.RowKit Go.Proofs Go.Proofs.Ytlbpjgeoaiiamaa.E
/-! ## slices.IndexFunc and slices.DeleteFunc over texts -/
theorem idx_is (s : List Txt) (del : Txt → Bool) : (m_slices_IndexFunc_string s del = -1 ∧ ∀ y ∈ s, del y = false) ∨ ((0 ≤ m_slices_IndexFunc_string s del ∧ m_slices_IndexFunc_string s del < s.length) ∧ del (at' s (m_slices_IndexFunc_string s del)) = true ∧ ∀ y ∈ s.take (m_slices_IndexFunc_string s del).toNat, del y = false) := by
  simp only [m_slices_IndexFunc_string]
  refine LOOP_post (fun (x : Int) => (0 ≤ x ∧ x ≤ s.length) ∧ ∀ y ∈ s.take x.toNat, del y = false) (fun x => ((s.length : Int) - x).toNat) (fun _ (r : Int) => (r = -1 ∧ ∀ y ∈ s, del y = false) ∨ ((0 ≤ r ∧ r < s.length) ∧ del (at' s r) = true ∧ ∀ y ∈ s.take r.toNat, del y = false)) (fun rec x hI ih => ?_) _ _ ⟨⟨by omega, by omega⟩, by simp⟩ (by omega)
  obtain ⟨⟨h0, h1⟩, h2⟩ := hI
  simp only [m_slices_IndexFunc_string_b1]
  by_cases hi : x < (s.length : Int)
  · have hlt : x.toNat < s.length := by omega
    have hat : at' s x = s[x.toNat] := by
      have := at_lt (xs := s) (j := x.toNat) hlt
      rwa [Int.toNat_of_nonneg h0] at this
    simp only [hi, decide_true, Bool.cond_true]
    cases hd : del (at' s x) with
    | true => exact .inr ⟨⟨h0, hi⟩, hd, h2⟩
    | false =>
      refine ih _ ⟨⟨by omega, by omega⟩, fun y hy => ?_⟩ (by omega)
      rw [show (x + 1).toNat = x.toNat + 1 by omega, List.take_succ_eq_append_getElem hlt, List.mem_append, List.mem_singleton] at hy
      rcases hy with hy | hy
      · exact h2 y hy
      · rw [hy, ← hat]; exact hd
  · have : x = s.length := by omega
    subst this
    simp only [hi, decide_false, Bool.cond_false]
    rw [Int.toNat_natCast, List.take_length] at h2
    exact .inl ⟨by first | rfl | trivial, h2⟩
theorem filt_none {s : List Txt} {del : Txt → Bool} (h : ∀ y ∈ s, del y = false) : s.filter (fun y => !del y) = s := by
  rw [List.filter_eq_self]; intro y hy; simp [h y hy]
theorem del_is (s : List Txt) (del : Txt → Bool) (hl : s.length ≤ 1000000) : m_slices_DeleteFunc_string s del = (s.filter (fun y => !del y), s.filter (fun y => !del y)) := by
  simp only [m_slices_DeleteFunc_string]
  rcases idx_is s del with ⟨h1, h2⟩ | ⟨⟨h0, h1⟩, h2, h3⟩
  · rw [h1, filt_none h2]; rfl
  · generalize m_slices_IndexFunc_string s del = I at h0 h1 h2 h3
    have hne : (I == -1) = false := by rw [beq_eq_false_iff_ne]; omega
    have hlt : I.toNat < s.length := by omega
    have hat : at' s I = s[I.toNat] := by
      have := at_lt (xs := s) (j := I.toNat) hlt
      rwa [Int.toNat_of_nonneg h0] at this
    rw [hne, Bool.cond_false, wr64 (n := I + 1) (by omega)]
    refine LOOP_is (fun (x : List Txt × Int × Int) => (0 ≤ x.2.1 ∧ x.2.1 < x.2.2 ∧ x.2.2 ≤ s.length) ∧ x.1.length = s.length ∧ x.1.take x.2.1.toNat = (s.take x.2.2.toNat).filter (fun y => !del y) ∧ x.1.drop x.2.2.toNat = s.drop x.2.2.toNat) (fun x => ((s.length : Int) - x.2.2).toNat) (fun _ => (s.filter (fun y => !del y), s.filter (fun y => !del y))) (fun rec x hI ih => ?_) ⟨⟨h0, by simp only; omega, by simp only; omega⟩, rfl, ?_, rfl⟩ (by simp only; omega)
    · obtain ⟨xs, i, j⟩ := x
      obtain ⟨⟨g0, g1, g2⟩, hx, ht, hd⟩ := hI
      simp only at g0 g1 g2 hx ht hd
      simp only [m_slices_DeleteFunc_string_b1, hx]
      by_cases hj : j < (s.length : Int)
      · have hjl : j.toNat < s.length := by omega
        have ej : (j + 1).toNat = j.toNat + 1 := by omega
        have hxj : at' xs j = s[j.toNat] := by
          have h := at_lt (xs := xs) (j := j.toNat) (by omega)
          rw [Int.toNat_of_nonneg (by omega)] at h
          rw [h]
          have h4 : xs.drop j.toNat = xs[j.toNat]'(by omega) :: xs.drop (j.toNat + 1) := List.drop_eq_getElem_cons (by omega)
          have h5 : s.drop j.toNat = s[j.toNat] :: s.drop (j.toNat + 1) := List.drop_eq_getElem_cons hjl
          rw [h4, h5] at hd
          exact (List.cons.inj hd).1
        have hdn : xs.drop (j.toNat + 1) = s.drop (j.toNat + 1) := by
          have := congrArg (List.drop 1) hd
          rwa [List.drop_drop, List.drop_drop] at this
        simp only [hj, decide_true, Bool.cond_true, hxj]
        cases hq : del s[j.toNat] with
        | true =>
          simp only [Bool.not_true, Bool.cond_false]
          refine ih _ ⟨⟨by simp only; omega, by simp only; omega, by simp only; omega⟩, hx, ?_, ?_⟩ (by simp only; omega)
          · simp only; rw [ej, List.take_succ_eq_append_getElem hjl, List.filter_append, ht]; simp [hq]
          · simp only; rw [ej]; exact hdn
        | false =>
          simp only [Bool.not_false, Bool.cond_true]
          rw [wr64 (n := i + 1) (by omega)]
          refine ih _ ⟨⟨by simp only; omega, by simp only; omega, by simp only; omega⟩, by simp only [put_len]; exact hx, ?_, ?_⟩ (by simp only; omega)
          · simp only
            have hpt : (put' xs i s[j.toNat]).take (i + 1).toNat = xs.take i.toNat ++ [s[j.toNat]] := by
              have e1 : (i + 1).toNat = i.toNat + 1 := by omega
              unfold put'
              rw [e1, List.take_succ_eq_append_getElem (by rw [List.length_set]; omega), List.getElem_set_self, List.take_set_of_le (by omega)]
            rw [hpt, ej, List.take_succ_eq_append_getElem hjl, List.filter_append, ht]; simp [hq]
          · simp only
            unfold put'
            rw [ej, List.drop_set_of_lt (by omega)]; exact hdn
      · have he : j = s.length := by omega
        subst he
        simp only [hj, decide_false, Bool.cond_false]
        rw [Int.toNat_natCast, List.take_length] at ht
        have hp : pre' (cpy xs i.toNat (List.replicate ((s.length : Int).toNat - i.toNat) ([] : Txt))) i = s.filter (fun y => !del y) := by
          unfold pre' cpy
          rw [List.append_assoc, List.take_append_of_le_length (by rw [List.length_take]; omega), List.take_take, Nat.min_self]; exact ht
        rw [hp]
    · simp only
      rw [show (I + 1).toNat = I.toNat + 1 by omega, List.take_succ_eq_append_getElem hlt, List.filter_append, filt_none h3, ← hat]
      simp [h2]

end Go.Proofs.Ytlbpjgeoaiiamaa
