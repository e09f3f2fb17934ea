/-
  PLAIN LAWS about the models: no program in sight. Conditions: as each theorem states them.
-/
import Derived.Test.YtbflomopgofkgaaExactRankCrewsPlain6
set_option linter.unusedVariables false
set_option linter.unusedSimpArgs false
set_option linter.unusedSectionVars false
set_option linter.unnecessarySimpa false
namespace Go.Proofs.Ytbflomopgofkgaa
open Go Go.RowKit Go.Proofs Go.Proofs.Ytbflomopgofkgaa.E
/-! ## The middle of some numbers -/
theorem middle_is (L : List Int) (hL : ∀ y ∈ L, y ≠ -1) : m_spec_l24Middle L = bif (L.length : Int) == 0 then (-1) else at' (srt L) (IntKind.wrap .i64 (Int.tdiv (IntKind.wrap .i64 ((L.length : Int) - 1)) 2)) := by
  simp only [m_spec_l24Middle]
  refine LOOP_is (fun (x : Int × List Int) => (0 ≤ x.1 ∧ x.1 ≤ L.length) ∧ Up x.2 ∧ x.2.Perm (L.take x.1.toNat)) (fun x => ((L.length : Int) - x.1).toNat) (fun _ => bif (L.length : Int) == 0 then (-1) else at' (srt L) (IntKind.wrap .i64 (Int.tdiv (IntKind.wrap .i64 ((L.length : Int) - 1)) 2))) (fun rec x hI ih => ?_) ⟨⟨by simp, by simp⟩, List.Pairwise.nil, by simp⟩ (by simp)
  obtain ⟨i, s⟩ := x
  obtain ⟨⟨h0, h1⟩, hu, hp⟩ := hI
  simp only at h0 h1 hu hp
  simp only [m_spec_l24Middle_b1]
  by_cases hi : i < (L.length : Int)
  · have hlt : i.toNat < L.length := by omega
    have hat : at' L i = L[i.toNat] := by
      have := at_lt (xs := L) (j := i.toNat) hlt
      rwa [Int.toNat_of_nonneg h0] at this
    have hm : ((at' L i) == (-1)) = false := by rw [hat, beq_eq_false_iff_ne]; exact hL _ (List.getElem_mem hlt)
    simp only [hi, decide_true, Bool.cond_true, hm, Bool.cond_false]
    refine LOOP_is (fun (x2 : Int) => (0 ≤ x2 ∧ x2 ≤ s.length) ∧ ∀ j (hj : j < s.length), x2.toNat ≤ j → at' L i < s[j]) (fun x2 => x2.toNat) (fun _ => bif (L.length : Int) == 0 then (-1) else at' (srt L) (IntKind.wrap .i64 (Int.tdiv (IntKind.wrap .i64 ((L.length : Int) - 1)) 2))) (fun rec2 x2 hI2 ih2 => ?_) ⟨⟨by omega, by omega⟩, fun j hj hj2 => by simp at hj2; omega⟩ (by simp)
    obtain ⟨⟨g0, g1⟩, g2⟩ := hI2
    simp only [m_spec_l24Middle_b2]
    cases hc : ((decide (0 < x2)) && (decide ((at' L i) < (at' s (x2 - 1))))) with
    | true =>
      simp only [Bool.and_eq_true, decide_eq_true_eq] at hc
      simp only [Bool.cond_true]
      refine ih2 _ ⟨⟨by omega, by omega⟩, fun j hj hj2 => ?_⟩ (by omega)
      by_cases hje : x2.toNat ≤ j
      · exact g2 j hj hje
      · have hjx : j = x2.toNat - 1 := by omega
        have hs : at' s (x2 - 1) = s[j] := by
          have := at_lt (xs := s) (j := j) hj
          rw [← this]; congr 1; omega
        rw [← hs]; exact hc.2
    | false =>
      simp only [Bool.cond_false]
      have e1 : m_spec_l00Own (pre' s x2) = s.take x2.toNat := by simp [m_spec_l00Own, pre']
      have e2 : cut' s x2 (s.length : Int) = s.drop x2.toNat := by
        unfold cut'; rw [List.take_of_length_le (by rw [List.length_drop]; omega)]
      rw [e1, e2]
      have hpl := place_ok (x := at' L i) (n := x2.toNat) hu (by omega) (by
        by_cases hz : x2.toNat = 0
        · exact .inl hz
        · right
          refine ⟨by omega, ?_⟩
          simp only [Bool.and_eq_false_iff, decide_eq_false_iff_not] at hc
          rcases hc with hc | hc
          · omega
          · have hs : at' s (x2 - 1) = s[x2.toNat - 1]'(by omega) := by
              have := at_lt (xs := s) (j := x2.toNat - 1) (by omega)
              rw [← this]; congr 1; omega
            rw [← hs]; omega) g2
      refine ih _ ⟨⟨by simp only; omega, by simp only; omega⟩, ins_up hu hpl.1 hpl.2, ?_⟩ (by simp only; omega)
      simp only
      have et : (i + 1).toNat = i.toNat + 1 := by omega
      rw [et, List.take_succ_eq_append_getElem hlt, ← hat]
      exact ins_perm.trans (List.Perm.append_right _ hp)
  · have he : i = L.length := by omega
    subst he
    simp only [hi, decide_false, Bool.cond_false]
    rw [Int.toNat_natCast, List.take_length] at hp
    have hs := srt_is hu hp
    rw [hs, srt_len]

end Go.Proofs.Ytbflomopgofkgaa
