/-
  PLAIN LAWS about the models: no program in sight. Conditions: as each theorem states them.
-/
import Derived.Test.YtfiedbefaoeoaaaMixingPlain11
set_option linter.unusedVariables false
set_option linter.unusedSimpArgs false
set_option linter.unusedSectionVars false
set_option linter.unnecessarySimpa false
namespace Go.Proofs.Ytfiedbefaoeoaaa
open Go Go.RowKit Go.Proofs Go.Proofs.Ytfiedbefaoeoaaa.E
/-! ## Gas, by the program alone -/
theorem ways_in {J : Int} {a : gAirway} (q : Int) (h : AirIn J a) : 0 ≤ (m_impl_Airway_ways a q).1 ∧ (m_impl_Airway_ways a q).1 < J ∧ 0 ≤ (m_impl_Airway_ways a q).2 ∧ (m_impl_Airway_ways a q).2 < J := by
  unfold AirIn at h
  simp only [m_impl_Airway_ways]
  by_cases hq : q < 0 <;> simp [hq] <;> omega
theorem endShares_len {m : gMine} {flows : List Int} (_ : FlowsIn m flows) {list : List gSource} {js : List Int} : (m_impl_Mine_endShares m flows list js).length = m.Airways.length := by
  simp only [m_impl_Mine_endShares]
  refine LOOP_post (fun (x : List Int × Int) => (x.1.length : Int) = x.2 ∧ 0 ≤ x.2 ∧ x.2 ≤ m.Airways.length) (fun x => ((m.Airways.length : Int) - x.2).toNat) (fun _ (r : List Int) => r.length = m.Airways.length) (fun rec x hI ih => ?_) _ _ (by simp) (by simp)
  obtain ⟨xs, i⟩ := x
  obtain ⟨h0, h1, h2⟩ := hI
  simp only at h0 h1 h2
  simp only [m_impl_Mine_endShares_b1]
  by_cases hi : i < (m.Airways.length : Int)
  · simp only [hi, decide_true, Bool.cond_true]
    cases at' flows i != 0 with
    | true => exact ih _ (by simp; omega) (by simp only; omega)
    | false =>
      cases decide (0 < m_impl_gasOf list i) with
      | true => exact ih _ (by simp; omega) (by simp only; omega)
      | false => exact ih _ (by simp; omega) (by simp only; omega)
  · simp only [hi, decide_false, Bool.cond_false]; omega
theorem shares_lenI {m : gMine} {flows : List Int} {list : List gSource} (hm : MineIn m) (_ : FlowsIn m flows) : ((m_impl_Mine_junctionShares m flows list).length : Int) = m.Junctions := by
  have hJ := hm.1
  simp only [m_impl_Mine_junctionShares]
  refine LOOP_post (fun (x : List Int × Int) => (x.1.length : Int) = m.Junctions) (fun x => (m.Junctions - x.2).toNat) (fun _ (r : List Int) => (r.length : Int) = m.Junctions) (fun rec x hI ih => ?_) _ _ (by simp; omega) (by simp)
  obtain ⟨xs, i⟩ := x
  simp only at hI
  simp only [m_impl_Mine_junctionShares_b1]
  by_cases hi : i < m.Junctions
  · simp only [hi, decide_true, Bool.cond_true]
    refine LOOP_post (fun (x : List Int × Int) => (x.1.length : Int) = m.Junctions) (fun x => (m.Junctions - x.2).toNat) (fun _ (r : List Int) => (r.length : Int) = m.Junctions) (fun rec2 x hI ih2 => ?_) _ _ (by simp; omega) (by simp; omega)
    obtain ⟨ys, j⟩ := x
    simp only at hI
    simp only [m_impl_Mine_junctionShares_b2, List.length_replicate]
    by_cases hj : j < ((m.Junctions.toNat : Nat) : Int)
    · simp only [hj, decide_true, Bool.cond_true]
      refine LOOP_post (fun (_ : List Int × List Int × Int) => True) (fun x => ((m.Airways.length : Int) - x.2.2).toNat) (fun _ (r : List Int) => (r.length : Int) = m.Junctions) (fun rec3 x _ ih3 => ?_) _ _ trivial (by simp)
      obtain ⟨a, b, q⟩ := x
      simp only [m_impl_Mine_junctionShares_b3]
      by_cases hq : q < (m.Airways.length : Int)
      · simp only [hq, decide_true, Bool.cond_true]
        cases ((at' flows q) != 0) && ((m_impl_Airway_ways (at' m.Airways q) (at' flows q)).2 == j) with
        | true => exact ih3 _ trivial (by simp only; omega)
        | false => exact ih3 _ trivial (by simp only; omega)
      · simp only [hq, decide_false, Bool.cond_false]
        exact ih2 _ (by simp only [put_len]; exact hI) (by simp only; omega)
    · simp only [hj, decide_false, Bool.cond_false]
      exact ih _ hI (by simp only; omega)
  · simp only [hi, decide_false, Bool.cond_false]; exact hI
/-! ## No gas where there are no sources -/
theorem gas_none (k : Int) : m_impl_gasOf [] k = 0 := by simp [m_impl_gasOf, LOOP, m_impl_gasOf_b1]
theorem up_zero {q : Int} (h : 1 ≤ q ∧ q ≤ 9000000) : m_impl_divUp 0 q = 0 := by
  simp only [m_impl_divUp]
  rw [wr64 (n := 0 + q) (by omega), wr64 (n := 0 + q - 1) (by omega), Int.tdiv_eq_ediv_of_nonneg (by omega), Int.ediv_eq_zero_of_lt (by omega) (by omega)]
  exact wr64 (by omega)
theorem share_zero {q : Int} (h : 1 ≤ q ∧ q ≤ 9000000) : m_impl_shareOf 0 q = 0 := by
  simp only [m_impl_shareOf]
  rw [show IntKind.wrap .i64 ((100 : Int) * 0) = 0 by rw [wr64 (by omega)]; rfl, up_zero h]
  rfl
theorem ends_zero {m : gMine} {flows js : List Int} (hm : MineIn m) (hf : FlowsIn m flows) (hj : ∀ j, 0 ≤ j → j < m.Junctions → at' js j = 0) : ∀ y ∈ m_impl_Mine_endShares m flows [] js, y = 0 := by
  simp only [m_impl_Mine_endShares]
  refine LOOP_post (fun (x : List Int × Int) => 0 ≤ x.2 ∧ ∀ y ∈ x.1, y = 0) (fun x => ((m.Airways.length : Int) - x.2).toNat) (fun _ (r : List Int) => ∀ y ∈ r, y = 0) (fun rec x hI ih => ?_) _ _ ⟨by simp, fun y hy => by simp at hy⟩ (by simp)
  obtain ⟨xs, i⟩ := x
  obtain ⟨h0, h1⟩ := hI
  simp only at h0 h1
  simp only [m_impl_Mine_endShares_b1, gas_none]
  by_cases hi : i < (m.Airways.length : Int)
  · simp only [hi, decide_true, Bool.cond_true]
    have add : ∀ v : Int, v = 0 → ∀ y ∈ rec (xs ++ ([v] : List Int), i + 1), y = 0 := fun v hv => by
      refine ih _ ⟨by simp only; omega, fun y hy => ?_⟩ (by simp only; omega)
      rcases List.mem_append.1 hy with h | h
      · exact h1 y h
      · rw [List.mem_singleton.1 h]; exact hv
    by_cases hz : at' flows i = 0
    · have : (at' flows i != 0) = false := by simpa using hz
      rw [this]
      have h00 : decide ((0 : Int) < 0) = false := rfl
      rw [h00]
      exact add 0 rfl
    · have : (at' flows i != 0) = true := by simpa using hz
      rw [this]
      have hq := hf.at (i := i) ⟨h0, hi⟩
      have ha := hm.at (i := i) ⟨h0, hi⟩
      have hw := ways_in (at' flows i) ha
      have hab := abs_val hq
      have hs : m_impl_shareOf 0 (m_impl_abs (at' flows i)) = 0 := share_zero (by rw [hab]; split <;> omega)
      rw [hs, hj _ hw.1 hw.2.1]
      exact add _ (by rw [show IntKind.wrap .i64 ((0 : Int) + 0) = 0 by rw [wr64 (by omega)]; rfl]; rfl)
  · simp only [hi, decide_false, Bool.cond_false]; exact h1
theorem mix_zero {fs ss : List Int} (hl : fs.length = ss.length) (hf : ∀ y ∈ fs, 1 ≤ y ∧ y ≤ 100000) (hs : ∀ y ∈ ss, y = 0) (hn : fs.length ≤ 24) : m_impl_mixShares fs ss = 0 := by
  simp only [m_impl_mixShares]
  refine LOOP_is (fun (x : Int × Int × Int) => (0 ≤ x.2.2 ∧ x.2.2 ≤ fs.length) ∧ x.1 = 0 ∧ (x.2.2 ≤ x.2.1 ∧ x.2.1 ≤ 100000 * x.2.2) ∧ (x.2.2 = 0 → x.2.1 = 0)) (fun x => ((fs.length : Int) - x.2.2).toNat) (fun _ => 0) (fun rec x hI ih => ?_) (by simp) (by simp)
  obtain ⟨s, a, i⟩ := x
  obtain ⟨⟨h0, h1⟩, h2, ⟨h3, h4⟩, h5⟩ := hI
  simp only at h0 h1 h2 h3 h4 h5
  subst h2
  simp only [m_impl_mixShares_b1]
  by_cases hi : i < (fs.length : Int)
  · simp only [hi, decide_true, Bool.cond_true]
    have hy := at_all hf (i := i) ⟨h0, hi⟩
    have hz : at' ss i = 0 := at_all hs (i := i) ⟨h0, by omega⟩
    rw [hz, Int.mul_zero, wr64 (n := 0) (by omega), wr64 (n := a + at' fs i) (by omega)]
    refine ih _ ⟨by simp only; omega, by simp only; exact wr64 (by omega), by simp only; omega, fun h => by simp only at h; omega⟩ (by simp only; omega)
  · simp only [hi, decide_false, Bool.cond_false]
    by_cases ha : a = 0
    · subst ha; rfl
    · have : (a == 0) = false := by simpa using ha
      rw [this]
      exact up_zero (by omega)
theorem junc_zero {m : gMine} {flows : List Int} (hm : MineIn m) (hf : FlowsIn m flows) : ∀ j, 0 ≤ j → j < m.Junctions → at' (m_impl_Mine_junctionShares m flows []) j = 0 := by
  have hJ := hm.1
  have hA := hm.2.1
  simp only [m_impl_Mine_junctionShares]
  have z0 : ∀ j, 0 ≤ j → j < m.Junctions → at' (List.replicate (m.Junctions : Int).toNat (0 : Int)) j = 0 := fun j _ _ => rep_at
  refine LOOP_post (fun (x : List Int × Int) => ∀ j, 0 ≤ j → j < m.Junctions → at' x.1 j = 0) (fun x => (m.Junctions - x.2).toNat) (fun _ (r : List Int) => ∀ j, 0 ≤ j → j < m.Junctions → at' r j = 0) (fun rec x hI ih => ?_) _ _ z0 (by simp)
  obtain ⟨xs, i⟩ := x
  simp only at hI
  simp only [m_impl_Mine_junctionShares_b1]
  by_cases hi : i < m.Junctions
  · simp only [hi, decide_true, Bool.cond_true]
    have hE := ends_zero hm hf hI
    have hEl := endShares_len (m := m) hf (list := []) (js := xs)
    refine LOOP_post (fun (x : List Int × Int) => (x.1.length = m.Junctions.toNat ∧ 0 ≤ x.2) ∧ ∀ j, 0 ≤ j → j < m.Junctions → at' x.1 j = 0) (fun x => (m.Junctions - x.2).toNat) (fun _ (r : List Int) => ∀ j, 0 ≤ j → j < m.Junctions → at' r j = 0) (fun rec2 x hI ih2 => ?_) _ _ ⟨by simp, z0⟩ (by simp; omega)
    obtain ⟨ys, j⟩ := x
    obtain ⟨⟨hyl, hj0⟩, hy⟩ := hI
    simp only at hyl hj0 hy
    simp only [m_impl_Mine_junctionShares_b2, List.length_replicate]
    by_cases hj : j < ((m.Junctions.toNat : Nat) : Int)
    · simp only [hj, decide_true, Bool.cond_true]
      refine LOOP_post (fun (x : List Int × List Int × Int) => (0 ≤ x.2.2 ∧ x.2.2 ≤ m.Airways.length ∧ (x.1.length : Int) ≤ x.2.2) ∧ x.1.length = x.2.1.length ∧ (∀ y ∈ x.1, 1 ≤ y ∧ y ≤ 100000) ∧ ∀ y ∈ x.2.1, y = 0) (fun x => ((m.Airways.length : Int) - x.2.2).toNat) (fun _ (r : List Int) => ∀ j, 0 ≤ j → j < m.Junctions → at' r j = 0) (fun rec3 x hI3 ih3 => ?_) _ _ ⟨by simp, rfl, fun y hy => by simp at hy, fun y hy => by simp at hy⟩ (by simp)
      obtain ⟨a, b, q⟩ := x
      obtain ⟨⟨q0, q1, q2⟩, q3, q4, q5⟩ := hI3
      simp only at q0 q1 q2 q3 q4 q5
      simp only [m_impl_Mine_junctionShares_b3]
      by_cases hq : q < (m.Airways.length : Int)
      · simp only [hq, decide_true, Bool.cond_true]
        by_cases hz : at' flows q = 0
        · have : (at' flows q != 0) = false := by simpa using hz
          rw [this]
          exact ih3 _ ⟨by simp only; omega, q3, q4, q5⟩ (by simp only; omega)
        · have : (at' flows q != 0) = true := by simpa using hz
          rw [this]
          cases ((m_impl_Airway_ways (at' m.Airways q) (at' flows q)).2 == j) with
          | false => exact ih3 _ ⟨by simp only; omega, q3, q4, q5⟩ (by simp only; omega)
          | true =>
            have hab := abs_val (hf.at (i := q) ⟨q0, hq⟩)
            have hfq := hf.at (i := q) ⟨q0, hq⟩
            have hez : at' (m_impl_Mine_endShares m flows [] xs) q = 0 := at_all hE (i := q) (by rw [hEl]; exact ⟨q0, hq⟩)
            refine ih3 _ ⟨by simp only [List.length_append, List.length_cons, List.length_nil]; omega, by simp only [List.length_append, List.length_cons, List.length_nil]; omega, fun y hy => ?_, fun y hy => ?_⟩ (by simp only; omega)
            · rcases List.mem_append.1 hy with h | h
              · exact q4 y h
              · rw [List.mem_singleton.1 h, hab]; split <;> omega
            · rcases List.mem_append.1 hy with h | h
              · exact q5 y h
              · rw [List.mem_singleton.1 h]; exact hez
      · simp only [hq, decide_false, Bool.cond_false]
        rw [mix_zero q3 q4 q5 (by omega)]
        refine ih2 _ ⟨by simp only [put_len]; exact ⟨hyl, by omega⟩, fun e e0 e1 => ?_⟩ (by simp only; omega)
        simp only
        by_cases he : e = j
        · subst he; exact put_at (by omega)
        · rw [put_at_ne hj0 e0 (fun g => he g.symm)]; exact hy e e0 e1
    · simp only [hj, decide_false, Bool.cond_false]
      exact ih _ hy (by simp only; omega)
  · simp only [hi, decide_false, Bool.cond_false]; exact hI

end Go.Proofs.Ytfiedbefaoeoaaa
