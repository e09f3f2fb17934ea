/-
  PLAIN LAWS about the models: no program in sight. Conditions: as each theorem states them.
-/
import Derived.Test.YtahohnhmdlndfaaExactWorstAirwayPlain3
set_option linter.unusedVariables false
set_option linter.unusedSimpArgs false
set_option linter.unusedSectionVars false
set_option linter.unnecessarySimpa false
namespace Go.Proofs.Ytahohnhmdlndfaa
open Go Go.RowKit Go.Proofs Go.Proofs.Ytahohnhmdlndfaa.E
/-! ## Gas: both models come to the same shares -/
theorem source_eq (x : gSource) : m_impl_Source_valid x = m_spec_l13One x := by
  simp only [m_impl_Source_valid, m_spec_l13One, name_eq, m_impl_rateOk, within_eq]
def SrcIn (m : gMine) (list : List gSource) : Prop := list.length ≤ 8 ∧ ∀ x ∈ list, (0 ≤ x.Airway ∧ x.Airway < m.Airways.length) ∧ 0 ≤ x.Rate ∧ x.Rate ≤ 10000000
theorem l13List_iff {m : gMine} {list : List gSource} : m_spec_l13List m list = true ↔ (∀ j : Nat, (0 : Int) ≤ j → j < list.length → (((!(m_spec_l13One (at' list j))) || (decide ((m.Airways.length : Int) ≤ (at' list j).Airway))) || ((decide (0 < (j : Int))) && (strB .geq (at' list ((j : Int) - 1)).Id (at' list j).Id))) = false) ∧ decide ((list.length : Int) ≤ 8) = true :=
  LOOP_all (b := m_spec_l13List_b1 m list) (n := list.length) (fun rec k i _ => rfl) (k := fun _ => decide ((list.length : Int) ≤ 8)) (((list.length : Int) - 0 : Int).toNat + 1) 0 (by omega) (by omega) (by omega)
theorem one13_imp {x : gSource} (h : m_spec_l13One x = true) : 0 ≤ x.Airway ∧ 0 ≤ x.Rate ∧ x.Rate ≤ 10000000 := by
  simp only [m_spec_l13One, m_spec_l00In, Bool.and_eq_true, decide_eq_true_eq] at h; omega
theorem sources_eq (m : gMine) (list : List gSource) : m_impl_ValidSources m list = (m_spec_l04Ok m && m_spec_l13List m list) := by
  rw [Bool.eq_iff_iff]
  have h1 := LOOP_all (b := m_impl_ValidSources_b1 m list) (n := list.length) (fun rec k i _ => rfl) (k := fun _ => true) (((list.length : Int) - 0 : Int).toNat + 1) 0 (by omega) (by omega) (by omega)
  have e : ∀ x : gSource, ∀ q : Bool, ((!m_impl_Source_valid x || !m_impl_indexValid_impl_Airway m.Airways x.Airway) || q) = ((!m_spec_l13One x || decide ((m.Airways.length : Int) ≤ x.Airway)) || q) := fun x q => by
    rw [source_eq, index_eq]
    cases ho : m_spec_l13One x with
    | false => rfl
    | true =>
      have h0 := (one13_imp ho).1
      by_cases hl : x.Airway < (m.Airways.length : Int)
      · have : ¬ (m.Airways.length : Int) ≤ x.Airway := by omega
        simp [hl, this, h0]
      · have : (m.Airways.length : Int) ≤ x.Airway := by omega
        simp [hl, this]
  simp only [m_impl_ValidSources, mine_eq, Bool.and_eq_true, l13List_iff]
  cases hc : m_spec_l04Ok m with
  | false => simp
  | true =>
    simp only [Bool.not_true, Bool.false_or, true_and]
    by_cases hl : (8 : Int) < (list.length : Int)
    · simp only [hl, decide_true, Bool.cond_true, Bool.false_eq_true, false_iff]
      rintro ⟨_, h⟩; simp at h; omega
    · simp only [hl, decide_false, Bool.cond_false]
      rw [h1]
      simp only [e, strleq_geq]
      simp; omega
theorem l13List_imp {m : gMine} {list : List gSource} (h : m_spec_l13List m list = true) : SrcIn m list := by
  obtain ⟨h1, h2⟩ := l13List_iff.1 h
  simp only [decide_eq_true_eq] at h2
  refine ⟨by omega, all_at.2 fun j hj => ?_⟩
  have := h1 j (by omega) hj
  simp only [Bool.or_eq_false_iff, Bool.not_eq_false', decide_eq_false_iff_not] at this
  have := one13_imp this.1.1
  omega
theorem l13Flows_eq (m : gMine) (flows : List Int) : m_spec_l13Flows m flows = m_impl_Mine_hasFlows m flows := by
  rw [Bool.eq_iff_iff, hasFlows_iff]
  exact flows_all (fun rec k i _ => rfl)
theorem gasCode_eq (m : gMine) (flows : List Int) (list : List gSource) : m_impl_gasCode m flows list = m_spec_l13Ask m flows list := by
  simp only [m_impl_gasCode, m_spec_l13Ask, sources_eq, l13Flows_eq, Bool.not_and]
def GasIn (m : gMine) (flows : List Int) (list : List gSource) : Prop := MineIn m ∧ FlowsIn m flows ∧ SrcIn m list
theorem l13Ask_imp {m : gMine} {flows : List Int} {list : List gSource} (h : m_spec_l13Ask m flows list = 0) : GasIn m flows list := by
  simp only [m_spec_l13Ask, l13Flows_eq] at h
  cases h1 : m_spec_l04Ok m <;> cases h2 : m_spec_l13List m list <;> cases h3 : m_impl_Mine_hasFlows m flows <;> simp [h1, h2, h3] at h
  exact ⟨l04Ok_imp h1, hasFlows_imp h3, l13List_imp h2⟩
theorem gasCode_imp {m : gMine} {flows : List Int} {list : List gSource} (h : m_impl_gasCode m flows list = 0) : GasIn m flows list := l13Ask_imp (by rw [← gasCode_eq]; exact h)
theorem l13Ask_impM {m : gMine} {flows : List Int} {list : List gSource} (h : m_spec_l13Ask m flows list = 0) : MineIn m := (l13Ask_imp h).1
theorem l13Ask_impF {m : gMine} {flows : List Int} {list : List gSource} (h : m_spec_l13Ask m flows list = 0) : FlowsIn m flows := (l13Ask_imp h).2.1
theorem l13Ask_impS {m : gMine} {flows : List Int} {list : List gSource} (h : m_spec_l13Ask m flows list = 0) : SrcIn m list := (l13Ask_imp h).2.2
theorem l13Ask_impJ {m : gMine} {flows : List Int} {list : List gSource} (h : m_spec_l13Ask m flows list = 0) : (1 ≤ m.Junctions ∧ m.Junctions ≤ 16) ∧ m.Airways.length ≤ 24 ∧ flows.length = m.Airways.length := ⟨(l13Ask_imp h).1.1, (l13Ask_imp h).1.2.1, (l13Ask_imp h).2.1.1⟩
theorem gasCode_impM {m : gMine} {flows : List Int} {list : List gSource} (h : m_impl_gasCode m flows list = 0) : MineIn m := (gasCode_imp h).1
theorem gasCode_impF {m : gMine} {flows : List Int} {list : List gSource} (h : m_impl_gasCode m flows list = 0) : FlowsIn m flows := (gasCode_imp h).2.1
theorem gasCode_impS {m : gMine} {flows : List Int} {list : List gSource} (h : m_impl_gasCode m flows list = 0) : SrcIn m list := (gasCode_imp h).2.2
theorem gasCode_impJ {m : gMine} {flows : List Int} {list : List gSource} (h : m_impl_gasCode m flows list = 0) : (1 ≤ m.Junctions ∧ m.Junctions ≤ 16) ∧ m.Airways.length ≤ 24 ∧ flows.length = m.Airways.length := l13Ask_impJ (by rw [← gasCode_eq]; exact h)
theorem ways_in {J : Int} {a : gAirway} (q : Int) (h : AirIn J a) : 0 ≤ (m_impl_Airway_ways a q).1 ∧ (m_impl_Airway_ways a q).1 < J ∧ 0 ≤ (m_impl_Airway_ways a q).2 ∧ (m_impl_Airway_ways a q).2 < J := by
  unfold AirIn at h
  simp only [m_impl_Airway_ways]
  by_cases hq : q < 0 <;> simp [hq] <;> omega
theorem start_in {J : Int} {a : gAirway} (q : Int) (h : AirIn J a) : 0 ≤ m_spec_l13Start a q ∧ m_spec_l13Start a q < J := by
  unfold AirIn at h
  simp only [m_spec_l13Start]
  by_cases hq : 0 < q <;> simp [hq] <;> omega
theorem ways_start {a : gAirway} {q : Int} (h : q ≠ 0) : (m_impl_Airway_ways a q).1 = m_spec_l13Start a q := by
  simp only [m_impl_Airway_ways, m_spec_l13Start]
  by_cases hq : q < 0
  · have : ¬ 0 < q := by omega
    simp [hq, this]
  · have : 0 < q := by omega
    simp [hq, this]
theorem ways_end {a : gAirway} {q : Int} (h : q ≠ 0) : (m_impl_Airway_ways a q).2 = m_spec_l13Start a (-q) := by
  simp only [m_impl_Airway_ways, m_spec_l13Start]
  by_cases hq : q < 0
  · have : 0 < -q := by omega
    simp [hq, this]
  · have : ¬ 0 < -q := by omega
    simp [hq, this]
theorem gasOf_eq (list : List gSource) (k : Int) : m_impl_gasOf list k = m_spec_l13Gas list k := rfl
theorem shareOf_eq (r f : Int) : m_impl_shareOf r f = m_spec_l13Share r f := by
  show (if 1000000 < m_impl_divUp (IntKind.wrap .i64 (100 * r)) f then 1000000 else m_impl_divUp (IntKind.wrap .i64 (100 * r)) f) = (bif decide (1000000 < m_impl_divUp (IntKind.wrap .i64 (100 * r)) f) then 1000000 else m_impl_divUp (IntKind.wrap .i64 (100 * r)) f)
  by_cases h : 1000000 < m_impl_divUp (IntKind.wrap .i64 (100 * r)) f <;> simp [h]
theorem mix_eq (a b : List Int) : m_impl_mixShares a b = m_spec_l13Mix a b := rfl
theorem abs_zero {q : Int} (h : -100000 ≤ q ∧ q ≤ 100000) : (m_spec_l03Abs q == 0) = (q == 0) := by
  rw [← abs_eq, abs_val h, Bool.eq_iff_iff]
  simp only [beq_iff_eq]
  split <;> omega
/-- the share at the end of an airway -/
def endOf (m : gMine) (flows : List Int) (list : List gSource) (js : List Int) (k : Int) : Int := m_spec_l13End list k (at' flows k) (at' js (m_spec_l13Start (at' m.Airways k) (at' flows k)))
theorem endShares_is {m : gMine} {flows : List Int} (hf : FlowsIn m flows) (list : List gSource) (js : List Int) : m_impl_Mine_endShares m flows list js = (irange 0 m.Airways.length).map (endOf m flows list js) := by
  have h := LOOP_fori (b := m_impl_Mine_endShares_b1 m flows list js) (k := fun x => x.1) (n := (m.Airways.length : Int)) (fun i xs => xs ++ [endOf m flows list js i]) (fun rec xs i h0 h1 => by
    simp only [m_impl_Mine_endShares_b1, h1, decide_true, Bool.cond_true, endOf, m_spec_l13End]
    have hq := hf.at ⟨h0, h1⟩
    rw [abs_zero hq]
    by_cases hz : at' flows i = 0
    · simp only [hz, bne_self_eq_false, Bool.cond_false, beq_self_eq_true, Bool.cond_true, gasOf_eq]
      by_cases hg : 0 < m_spec_l13Gas list i <;> simp [hg]
    · have e1 : (at' flows i != 0) = true := by simpa using hz
      have e2 : (at' flows i == 0) = false := by simpa using hz
      simp only [e1, e2, Bool.cond_true, Bool.cond_false, gasOf_eq, shareOf_eq, abs_eq, ways_start hz, m_spec_l00Min, Bool.cond_decide]) (fun rec xs => by simp [m_impl_Mine_endShares_b1]) (((m.Airways.length : Int) - 0 : Int).toNat + 1) 0 [] (by omega) (by omega) (by omega)
  simp only [m_impl_Mine_endShares]
  rw [h, fori_map]
  simp
theorem end_at {m : gMine} {flows : List Int} (hf : FlowsIn m flows) (list : List gSource) (js : List Int) {i : Int} (hi : 0 ≤ i ∧ i < m.Airways.length) : at' (m_impl_Mine_endShares m flows list js) i = endOf m flows list js i := by
  rw [endShares_is hf, at_irange0 hi.1 hi.2]
theorem endShares_len {m : gMine} {flows : List Int} (hf : FlowsIn m flows) {list : List gSource} {js : List Int} : (m_impl_Mine_endShares m flows list js).length = m.Airways.length := by
  rw [endShares_is hf]; simp [irange_len]
theorem into_eq {J : Int} {a : gAirway} (ha : AirIn J a) (q j : Int) : ((q != 0) && ((m_impl_Airway_ways a q).2 == j)) = !(((q == 0) || ((a.From != j) && (a.To != j))) || (m_spec_l13Start a q == j)) := by
  unfold AirIn at ha
  simp only [m_impl_Airway_ways, m_spec_l13Start]
  rw [Bool.eq_iff_iff]
  by_cases h1 : q < 0
  · have : ¬ 0 < q := by omega
    simp only [h1, this, decide_true, decide_false, Bool.cond_true, Bool.cond_false, Bool.and_eq_true, Bool.not_eq_true', Bool.or_eq_false_iff, Bool.and_eq_false_iff, bne_iff_ne, ne_eq, beq_iff_eq, beq_eq_false_iff_ne, bne_eq_false_iff_eq]
    omega
  · simp only [h1, decide_false, Bool.cond_false]
    by_cases h2 : 0 < q
    · simp only [h2, decide_true, Bool.cond_true, Bool.and_eq_true, Bool.not_eq_true', Bool.or_eq_false_iff, Bool.and_eq_false_iff, bne_iff_ne, ne_eq, beq_iff_eq, beq_eq_false_iff_ne, bne_eq_false_iff_eq]
      omega
    · have : q = 0 := by omega
      simp [this]
theorem shares_eq {m : gMine} {flows : List Int} {list : List gSource} (hm : MineIn m) (hf : FlowsIn m flows) : m_impl_Mine_junctionShares m flows list = m_spec_l13Shares m flows list := by
  have hJ := hm.1
  have hn : ((List.replicate (m.Junctions).toNat (0 : Int)).length : Int) = m.Junctions := by simp; omega
  refine LOOP_sim (fun x y => x = y) (fun x => (m.Junctions - x.2).toNat) (fun x => (m.Junctions - x.2).toNat) ?_ _ _ _ _ rfl (by dsimp only; omega) (by dsimp only; omega)
  rintro rec1 rec1' ⟨js, i⟩ _ rfl hrec
  simp only [m_impl_Mine_junctionShares_b1, m_spec_l13Shares_b1]
  by_cases hi : i < m.Junctions
  · simp only [hi, decide_true, Bool.cond_true]
    refine LOOP_sim (fun x y => x = y ∧ x.2 ≤ m.Junctions) (fun x => (m.Junctions - x.2).toNat) (fun x => (m.Junctions - x.2).toNat) ?_ _ _ _ _ ⟨rfl, by dsimp only; omega⟩ (by simp only [hn]; omega) (by dsimp only; omega)
    rintro rec2 rec2' ⟨nx, j⟩ _ ⟨rfl, hj1⟩ hrec2
    simp only [m_impl_Mine_junctionShares_b2, m_spec_l13Shares_b2, hn]
    by_cases hj : j < m.Junctions
    · simp only [hj, decide_true, Bool.cond_true]
      refine LOOP_sim (fun (x : List Int × List Int × Int) (y : Int × List Int × List Int) => x.2.2 = y.1 ∧ x.1 = y.2.1 ∧ x.2.1 = y.2.2 ∧ 0 ≤ y.1 ∧ y.1 ≤ m.Airways.length) (fun x => ((m.Airways.length : Int) - x.2.2).toNat) (fun y => ((m.Airways.length : Int) - y.1).toNat) ?_ _ _ _ _ ⟨rfl, rfl, rfl, by dsimp only; omega, by dsimp only; omega⟩ (by dsimp only; omega) (by simp only [hf.1]; omega)
      rintro rec3 rec3' ⟨q, sh, k⟩ ⟨_, _, _⟩ ⟨rfl, rfl, rfl, hk0, hk1⟩ hrec3
      simp only at hk0 hk1 hrec3
      simp only [m_impl_Mine_junctionShares_b3, m_spec_l13Shares_b3, hf.1]
      by_cases hk : k < (m.Airways.length : Int)
      · simp only [hk, decide_true, Bool.cond_true]
        rw [into_eq (hm.at ⟨hk0, hk⟩)]
        cases hc : (((at' flows k == 0) || (((at' m.Airways k).From != j) && ((at' m.Airways k).To != j))) || (m_spec_l13Start (at' m.Airways k) (at' flows k) == j))
        · simp only [Bool.not_false, Bool.cond_true, Bool.cond_false]
          rw [end_at hf list js ⟨hk0, hk⟩, abs_eq]
          exact hrec3 _ _ ⟨rfl, rfl, rfl, by dsimp only; omega, by dsimp only; omega⟩ (by dsimp only; omega) (by dsimp only; omega)
        · simp only [Bool.not_true, Bool.cond_true, Bool.cond_false]
          exact hrec3 _ _ ⟨rfl, rfl, rfl, by dsimp only; omega, by dsimp only; omega⟩ (by dsimp only; omega) (by dsimp only; omega)
      · simp only [hk, decide_false, Bool.cond_false, mix_eq]
        exact hrec2 _ _ ⟨rfl, by dsimp only; omega⟩ (by dsimp only; omega) (by dsimp only; omega)
    · simp only [hj, decide_false, Bool.cond_false]
      exact hrec _ _ rfl (by dsimp only; omega) (by dsimp only; omega)
  · simp only [hi, decide_false, Bool.cond_false]
theorem shares_lenJ (m : gMine) (flows : List Int) (list : List gSource) (hm : MineIn m) : ((m_spec_l13Shares m flows list).length : Int) = m.Junctions := by
  have hJ := hm.1
  refine LOOP_post (fun (x : List Int × Int) => x.1.length = m.Junctions.toNat) (fun x => (m.Junctions - x.2).toNat) (fun _ (r : List Int) => (r.length : Int) = m.Junctions) ?_ _ _ (by simp) (by dsimp only; omega)
  rintro rec1 ⟨js, i⟩ hx hrec
  simp only at hx hrec
  simp only [m_spec_l13Shares_b1]
  by_cases hi : i < m.Junctions
  · simp only [hi, decide_true, Bool.cond_true]
    refine LOOP_post (fun (x : List Int × Int) => x.1.length = m.Junctions.toNat) (fun x => (m.Junctions - x.2).toNat) (fun _ (r : List Int) => (r.length : Int) = m.Junctions) ?_ _ _ (by simp) (by dsimp only; omega)
    rintro rec2 ⟨nx, j⟩ hy hrec2
    simp only at hy hrec2
    simp only [m_spec_l13Shares_b2]
    by_cases hj : j < m.Junctions
    · simp only [hj, decide_true, Bool.cond_true]
      refine LOOP_post (fun (x : Int × List Int × List Int) => True) (fun x => ((flows.length : Int) - x.1).toNat) (fun _ (r : List Int) => (r.length : Int) = m.Junctions) ?_ _ _ trivial (by dsimp only; omega)
      rintro rec3 ⟨k, q, sh⟩ - hrec3
      simp only at hrec3
      simp only [m_spec_l13Shares_b3]
      by_cases hk : k < (flows.length : Int)
      · simp only [hk, decide_true, Bool.cond_true]
        cases (((at' flows k == 0) || (((at' m.Airways k).From != j) && ((at' m.Airways k).To != j))) || (m_spec_l13Start (at' m.Airways k) (at' flows k) == j))
        · exact hrec3 _ trivial (by dsimp only; omega)
        · exact hrec3 _ trivial (by dsimp only; omega)
      · simp only [hk, decide_false, Bool.cond_false]
        exact hrec2 _ (by simp only [put_len]; exact hy) (by dsimp only; omega)
    · simp only [hj, decide_false, Bool.cond_false]
      exact hrec _ hy (by dsimp only; omega)
  · simp only [hi, decide_false, Bool.cond_false]; omega
theorem shares_lenI {m : gMine} {flows : List Int} {list : List gSource} (hm : MineIn m) (hf : FlowsIn m flows) : ((m_impl_Mine_junctionShares m flows list).length : Int) = m.Junctions := by
  rw [shares_eq hm hf]; exact shares_lenJ m flows list hm

end Go.Proofs.Ytahohnhmdlndfaa
