/-
  PLAIN LAWS about the models: no program in sight. Conditions: as each theorem states them.
-/
import Derived.Test.YtahohnhmdlndfaaExactSmokyAirwaysPlain6
set_option linter.unusedVariables false
set_option linter.unusedSimpArgs false
set_option linter.unusedSectionVars false
set_option linter.unnecessarySimpa false
namespace Go.Proofs.Ytahohnhmdlndfaa
open Go Go.RowKit Go.Proofs Go.Proofs.Ytahohnhmdlndfaa.E
/-! ## Smoke: both models come to the same times -/
def FireIn (m : gMine) (f : gFire) : Prop := (0 ≤ f.Airway ∧ f.Airway < m.Airways.length) ∧ (0 ≤ f.At ∧ f.At ≤ (at' m.Airways f.Airway).Length) ∧ 0 ≤ f.Start ∧ f.Start ≤ 36000
theorem fire_eq (m : gMine) (f : gFire) : m_impl_ValidFire m f = (m_spec_l04Ok m && m_spec_l17Fire m f) := by
  simp only [m_impl_ValidFire, m_spec_l17Fire, mine_eq, m_impl_Fire_valid, m_spec_l17One, within_eq, index_eq, m_spec_l00In]
  rw [Bool.eq_iff_iff]
  simp only [Bool.and_eq_true, decide_eq_true_eq]
  constructor
  · rintro ⟨⟨⟨h1, h2⟩, h3⟩, h4⟩; exact ⟨h1, ⟨h2, h3.2⟩, h4⟩
  · rintro ⟨h1, ⟨h2, h3⟩, h4⟩; exact ⟨⟨⟨h1, h2⟩, h2.1.1.1, h3⟩, h4⟩
theorem l17Fire_imp {m : gMine} {f : gFire} (h : m_spec_l17Fire m f = true) : FireIn m f := by
  simp only [m_spec_l17Fire, m_spec_l17One, m_spec_l00In, Bool.and_eq_true, decide_eq_true_eq] at h
  unfold FireIn; omega
theorem l07Flows_eq' (m : gMine) (flows : List Int) : m_spec_l07Flows m flows = m_impl_Mine_hasFlows m flows := by
  rw [Bool.eq_iff_iff, hasFlows_iff]
  exact flows_all (fun rec k i _ => rfl)
theorem l17Ask_imp {m : gMine} {flows : List Int} {f : gFire} (h : m_spec_l17Ask m flows f = 0) : MineIn m ∧ FlowsIn m flows ∧ FireIn m f := by
  simp only [m_spec_l17Ask, l07Flows_eq'] at h
  cases h1 : m_spec_l04Ok m <;> cases h2 : m_spec_l17Fire m f <;> cases h3 : m_impl_Mine_hasFlows m flows <;> simp [h1, h2, h3] at h
  exact ⟨l04Ok_imp h1, hasFlows_imp h3, l17Fire_imp h2⟩
theorem fireCode_imp {m : gMine} {flows : List Int} {f : gFire} {t : Int} (h : m_impl_fireCode m flows f t = 0) : MineIn m ∧ FlowsIn m flows ∧ FireIn m f := by
  simp only [m_impl_fireCode, fire_eq] at h
  cases h1 : m_spec_l04Ok m <;> cases h2 : m_spec_l17Fire m f <;> cases h3 : m_impl_Mine_hasFlows m flows <;> cases h4 : m_impl_within t 0 36000 <;> simp [h1, h2, h3, h4] at h
  exact ⟨l04Ok_imp h1, hasFlows_imp h3, l17Fire_imp h2⟩
theorem fireCode0 (m : gMine) (flows : List Int) (f : gFire) : m_impl_fireCode m flows f 0 = m_spec_l17Ask m flows f := by
  simp only [m_impl_fireCode, m_spec_l17Ask, fire_eq, l07Flows_eq', Bool.not_and]
  rfl
theorem l17Ask_impM {m : gMine} {flows : List Int} {f : gFire} (h : m_spec_l17Ask m flows f = 0) : MineIn m := (l17Ask_imp h).1
theorem l17Ask_impF {m : gMine} {flows : List Int} {f : gFire} (h : m_spec_l17Ask m flows f = 0) : FlowsIn m flows := (l17Ask_imp h).2.1
theorem l17Ask_impS {m : gMine} {flows : List Int} {f : gFire} (h : m_spec_l17Ask m flows f = 0) : FireIn m f := (l17Ask_imp h).2.2
theorem l17Ask_impJ {m : gMine} {flows : List Int} {f : gFire} (h : m_spec_l17Ask m flows f = 0) : (1 ≤ m.Junctions ∧ m.Junctions ≤ 16) ∧ m.Airways.length ≤ 24 ∧ flows.length = m.Airways.length ∧ (0 ≤ f.Airway ∧ f.Airway < m.Airways.length) := ⟨(l17Ask_imp h).1.1, (l17Ask_imp h).1.2.1, (l17Ask_imp h).2.1.1, (l17Ask_imp h).2.2.1⟩
theorem fireCode_impM {m : gMine} {flows : List Int} {f : gFire} {t : Int} (h : m_impl_fireCode m flows f t = 0) : MineIn m := (fireCode_imp h).1
theorem fireCode_impF {m : gMine} {flows : List Int} {f : gFire} {t : Int} (h : m_impl_fireCode m flows f t = 0) : FlowsIn m flows := (fireCode_imp h).2.1
theorem fireCode_impS {m : gMine} {flows : List Int} {f : gFire} {t : Int} (h : m_impl_fireCode m flows f t = 0) : FireIn m f := (fireCode_imp h).2.2
theorem fireCode_impJ {m : gMine} {flows : List Int} {f : gFire} {t : Int} (h : m_impl_fireCode m flows f t = 0) : (1 ≤ m.Junctions ∧ m.Junctions ≤ 16) ∧ m.Airways.length ≤ 24 ∧ flows.length = m.Airways.length ∧ (0 ≤ f.Airway ∧ f.Airway < m.Airways.length) := ⟨(fireCode_imp h).1.1, (fireCode_imp h).1.2.1, (fireCode_imp h).2.1.1, (fireCode_imp h).2.2.1⟩
/-- rounded up, and not great -/
theorem div_le {a b : Int} (ha : 0 ≤ a ∧ a ≤ 500000000) (hb : 1 ≤ b ∧ b ≤ 100000) : 0 ≤ m_impl_divUp a b ∧ m_impl_divUp a b ≤ 500000000 := by
  simp only [m_impl_divUp]
  rw [wr64 (n := a + b) (by omega), wr64 (n := a + b - 1) (by omega), Int.tdiv_eq_ediv_of_nonneg (by omega)]
  have h0 : 0 ≤ (a + b - 1) / b := Int.ediv_nonneg (by omega) (by omega)
  have h1 : (a + b - 1) / b ≤ 500000000 := by
    have : (a + b - 1) / b < 500000001 := Int.ediv_lt_of_lt_mul (by omega) (by
      have h2 : 500000001 * 1 ≤ 500000001 * b := by omega
      have h3 : a + b - 1 < 500000001 * b := by omega
      omega)
    omega
  rw [wr64 (by omega)]
  exact ⟨h0, h1⟩
theorem abs_rng {q : Int} (h : -100000 ≤ q ∧ q ≤ 100000) (h0 : ¬ q = 0) : 1 ≤ m_impl_abs q ∧ m_impl_abs q ≤ 100000 := by
  rw [abs_val h]; split <;> omega
theorem area_rng {a b : Int} (ha : 0 ≤ a ∧ a ≤ 10000) (hb : 50 ≤ b ∧ b ≤ 5000) : 0 ≤ a * b ∧ a * b ≤ 50000000 := by
  refine ⟨Int.mul_nonneg (by omega) (by omega), ?_⟩
  have h1 : a * b ≤ 10000 * b := Int.mul_le_mul_of_nonneg_right ha.2 (by omega)
  omega
/-- how long smoke takes through an airway -/
def smTime (m : gMine) (flows : List Int) (k : Int) : Int := m_impl_divUp (IntKind.wrap .i64 ((at' m.Airways k).Length * (at' m.Airways k).Section)) (m_impl_abs (at' flows k))
theorem smTime_rng {m : gMine} {flows : List Int} (hm : MineIn m) (hf : FlowsIn m flows) {k : Int} (hk : 0 ≤ k ∧ k < m.Airways.length) (h0 : ¬ at' flows k = 0) : 0 ≤ smTime m flows k ∧ smTime m flows k ≤ 500000000 := by
  have ha := hm.at hk
  unfold AirIn at ha
  have h1 := area_rng (a := (at' m.Airways k).Length) (b := (at' m.Airways k).Section) (by omega) (by omega)
  have h2 := abs_rng (hf.at hk) h0
  simp only [smTime]
  rw [wr64 (n := (at' m.Airways k).Length * (at' m.Airways k).Section) (by omega)]
  exact div_le (by omega) h2
def smU (m : gMine) (flows : List Int) (k : Int) : Int := (m_impl_Airway_ways (at' m.Airways k) (at' flows k)).1
def smV (m : gMine) (flows : List Int) (k : Int) : Int := (m_impl_Airway_ways (at' m.Airways k) (at' flows k)).2
def smE (m : gMine) (flows : List Int) (k : Int) : Int × Int × Int := (smU m flows k, smV m flows k, smTime m flows k)
def smEs (m : gMine) (flows : List Int) : List (Int × Int × Int) := ((irange 0 m.Airways.length).filter (fun k => !(at' flows k == 0))).map (smE m flows)
def yes (_ _ : Int) : Bool := true
theorem smUV {m : gMine} {flows : List Int} (hm : MineIn m) {k : Int} (hk : 0 ≤ k ∧ k < m.Airways.length) : (0 ≤ smU m flows k ∧ smU m flows k < m.Junctions) ∧ 0 ≤ smV m flows k ∧ smV m flows k < m.Junctions := by
  have := ways_in (at' flows k) (hm.at hk)
  unfold smU smV; omega
theorem smEs_ok {m : gMine} {flows : List Int} (hm : MineIn m) (hf : FlowsIn m flows) : ∀ e ∈ smEs m flows, EdOk m.Junctions.toNat e := by
  intro e he
  obtain ⟨k, hk, rfl⟩ := List.mem_map.1 he
  rw [List.mem_filter, mem_irange] at hk
  have hk' : 0 ≤ k ∧ k < m.Airways.length := by omega
  have h1 := smUV (flows := flows) hm hk'
  have h2 := smTime_rng hm hf hk' (by simpa using hk.2)
  simp only [EdOk, smE]; omega
/-- one airway in a round -/
def smStep (m : gMine) (flows : List Int) (k : Int) (a : List Int) : List Int := bif (at' flows k == 0) || decide (at' a (smU m flows k) < 0) then a else bif decide (at' a (smV m flows k) < 0) || decide (IntKind.wrap .i64 (at' a (smU m flows k) + smTime m flows k) < at' a (smV m flows k)) then put' a (smV m flows k) (IntKind.wrap .i64 (at' a (smU m flows k) + smTime m flows k)) else a
theorem sm_wrap {m : gMine} {flows : List Int} (hm : MineIn m) (hf : FlowsIn m flows) {a : List Int} (ha : SmB m.Junctions a) {k : Int} (hk : 0 ≤ k ∧ k < m.Airways.length) (h0 : ¬ at' flows k = 0) (h1 : 0 ≤ at' a (smU m flows k)) :
    IntKind.wrap .i64 (at' a (smU m flows k) + smTime m flows k) = at' a (smU m flows k) + smTime m flows k := by
  have h2 := (smUV (flows := flows) hm hk).1
  have h3 := ha.hi hm.1.2 h2.1 h2.2
  have h4 := smTime_rng hm hf hk h0
  exact wr64 (by omega)
theorem smStep_rlx {m : gMine} {flows : List Int} (hm : MineIn m) (hf : FlowsIn m flows) {a : List Int} (ha : SmB m.Junctions a) {k : Int} (hk : 0 ≤ k ∧ k < m.Airways.length) : smStep m flows k a = if at' flows k = 0 then a else rlx yes (smE m flows k) a := by
  simp only [smStep, rlx, smE, yes, Bool.and_true]
  by_cases h0 : at' flows k = 0
  · simp [h0]
  · have hb : (at' flows k == 0) = false := by simpa using h0
    rw [if_neg h0, hb, Bool.false_or]
    by_cases h1 : at' a (smU m flows k) < 0
    · have : ¬ 0 ≤ at' a (smU m flows k) := by omega
      simp [h1, this]
    · have h1' : 0 ≤ at' a (smU m flows k) := by omega
      rw [sm_wrap hm hf ha hk h0 h1']
      by_cases c1 : at' a (smV m flows k) < 0 <;> by_cases c2 : at' a (smU m flows k) + smTime m flows k < at' a (smV m flows k) <;> simp [h1, h1', c1, c2]
theorem smStep_SmB {m : gMine} {flows : List Int} (hm : MineIn m) (hf : FlowsIn m flows) {a : List Int} (ha : SmB m.Junctions a) {k : Int} (hk : 0 ≤ k ∧ k < m.Airways.length) : SmB m.Junctions (smStep m flows k a) ∧ (smStep m flows k a = a ∨ pot (smStep m flows k a) < pot a) := by
  rw [smStep_rlx hm hf ha hk]
  by_cases h0 : at' flows k = 0
  · rw [if_pos h0]; exact ⟨ha, .inl rfl⟩
  · rw [if_neg h0]
    rcases rlx_cases (safe := yes) (smE m flows k) a with h | ⟨h1, h2, _, h4⟩
    · rw [h]; exact ⟨ha, .inl rfl⟩
    · rw [h4]
      have h5 := smUV (flows := flows) hm hk
      have h6 := smTime_rng hm hf hk h0
      obtain ⟨h7, h8⟩ := ha.put hm.1.2 (u := smU m flows k) (v := smV m flows k) (w := smTime m flows k) h5.1 h5.2 h1 (by omega) h2
      exact ⟨h7, .inr h8⟩
/-- the whole round -/
theorem sm_round {m : gMine} {flows : List Int} (hm : MineIn m) (hf : FlowsIn m flows) : ∀ (n : Nat) (i : Int) (a : List Int), SmB m.Junctions a → 0 ≤ i → i + n ≤ m.Airways.length → SmB m.Junctions (fori (smStep m flows) n i a) ∧ fori (smStep m flows) n i a = swp yes (((irange i n).filter (fun k => !(at' flows k == 0))).map (smE m flows)) a
  | 0, i, a, ha, _, _ => ⟨ha, rfl⟩
  | n + 1, i, a, ha, h0, h1 => by
    have hk : 0 ≤ i ∧ i < m.Airways.length := by omega
    obtain ⟨h2, _⟩ := smStep_SmB hm hf ha hk
    obtain ⟨h3, h4⟩ := sm_round hm hf n (i + 1) _ h2 (by omega) (by omega)
    refine ⟨h3, ?_⟩
    show fori (smStep m flows) n (i + 1) (smStep m flows i a) = _
    rw [h4, smStep_rlx hm hf ha hk]
    simp only [irange, List.filter_cons]
    by_cases hz : at' flows i = 0
    · simp [hz]
    · have hb : (!(at' flows i == 0)) = true := by simpa using hz
      rw [if_neg hz, if_pos hb]
      rfl
theorem LOOP_foriF {ρ σ : Type} {n : Int} {b : (Int × σ → ρ) → (Int × σ → ρ) → Int × σ → ρ} {k : Int × σ → ρ} (I : Int → σ → Prop) (st : Int → σ → σ) (hb : ∀ rec s i, 0 ≤ i → i < n → I i s → b rec k (i, s) = rec (i + 1, st i s)) (hI : ∀ s i, 0 ≤ i → i < n → I i s → I (i + 1) (st i s)) (he : ∀ rec s, I n s → b rec k (n, s) = k (n, s)) :
    ∀ (f : Nat) (i : Int) (s : σ), 0 ≤ i → i ≤ n → (n - i).toNat < f → I i s → LOOP b k f (i, s) = k (n, fori st (n - i).toNat i s)
  | 0, _, _, _, _, h, _ => by omega
  | f + 1, i, s, h0, h1, h2, hi => by
    simp only [LOOP]
    by_cases h : i < n
    · rw [hb _ _ _ h0 h hi, LOOP_foriF I st hb hI he f (i + 1) _ (by omega) (by omega) (by omega) (hI _ _ h0 h hi)]
      rw [show (n - i).toNat = (n - (i + 1)).toNat + 1 by omega]; rfl
    · have : i = n := by omega
      subst this
      rw [he _ _ hi]; simp [fori]
/-- one airway in a round, and whether it has changed something -/
def smStepF (m : gMine) (flows : List Int) (k : Int) (x : List Int × Bool) : List Int × Bool := bif (at' flows k == 0) || decide (at' x.1 (smU m flows k) < 0) then x else bif decide (at' x.1 (smV m flows k) < 0) || decide (IntKind.wrap .i64 (at' x.1 (smU m flows k) + smTime m flows k) < at' x.1 (smV m flows k)) then (put' x.1 (smV m flows k) (IntKind.wrap .i64 (at' x.1 (smU m flows k) + smTime m flows k)), true) else x
theorem smStepF_1 (m : gMine) (flows : List Int) (k : Int) (x : List Int × Bool) : (smStepF m flows k x).1 = smStep m flows k x.1 ∧ ((smStepF m flows k x).2 = false → x.2 = false ∧ smStep m flows k x.1 = x.1) := by
  simp only [smStepF, smStep]
  cases (at' flows k == 0) || decide (at' x.1 (smU m flows k) < 0) with
  | true => exact ⟨rfl, fun h => ⟨h, rfl⟩⟩
  | false =>
    simp only [Bool.cond_false]
    cases decide (at' x.1 (smV m flows k) < 0) || decide (IntKind.wrap .i64 (at' x.1 (smU m flows k) + smTime m flows k) < at' x.1 (smV m flows k)) with
    | true => exact ⟨rfl, fun h => by simp at h⟩
    | false => exact ⟨rfl, fun h => ⟨h, rfl⟩⟩
theorem smStepF_I {m : gMine} {flows : List Int} (hm : MineIn m) (hf : FlowsIn m flows) {a0 : List Int} {x : List Int × Bool} (h : SmI m.Junctions a0 x.1 x.2) {k : Int} (hk : 0 ≤ k ∧ k < m.Airways.length) : SmI m.Junctions a0 (smStepF m flows k x).1 (smStepF m flows k x).2 := by
  obtain ⟨h1, h2⟩ := smStep_SmB hm hf h.1 hk
  have h3 := smStepF_1 m flows k x
  rw [h3.1]
  refine ⟨h1, ?_, fun ht => ?_⟩
  · have := h.2.1
    rcases h2 with h2 | h2
    · rw [h2]; exact this
    · omega
  · rcases h2 with h2 | h2
    · rw [h2]
      refine h.2.2 ?_
      cases hx : x.2 with
      | true => rfl
      | false =>
        exfalso
        have := h3
        simp only [smStepF] at ht
        cases hc : (at' flows k == 0) || decide (at' x.1 (smU m flows k) < 0) with
        | true => rw [hc] at ht; simp only [Bool.cond_true] at ht; rw [hx] at ht; simp at ht
        | false =>
          rw [hc] at ht
          simp only [Bool.cond_false] at ht
          cases hd : decide (at' x.1 (smV m flows k) < 0) || decide (IntKind.wrap .i64 (at' x.1 (smU m flows k) + smTime m flows k) < at' x.1 (smV m flows k)) with
          | false => rw [hd] at ht; simp only [Bool.cond_false] at ht; rw [hx] at ht; simp at ht
          | true =>
            -- changed, and yet the same: a place that is less than it is
            have hst : smStep m flows k x.1 = put' x.1 (smV m flows k) (IntKind.wrap .i64 (at' x.1 (smU m flows k) + smTime m flows k)) := by
              simp only [smStep, hc, hd, Bool.cond_false, Bool.cond_true]
            rw [hst] at h2
            simp only [Bool.or_eq_false_iff, decide_eq_false_iff_not, beq_eq_false_iff_ne, ne_eq] at hc
            simp only [Bool.or_eq_true, decide_eq_true_eq] at hd
            have h5 := smUV (flows := flows) hm hk
            have h6 := smTime_rng hm hf hk hc.1
            have hw := sm_wrap hm hf h.1 hk hc.1 (by omega)
            rw [hw] at h2 hd
            have h7 := (h.1.put hm.1.2 (u := smU m flows k) (v := smV m flows k) (w := smTime m flows k) h5.1 h5.2 (by omega) (by omega) hd).2
            rw [h2] at h7; omega
    · have := h.2.1; omega
/-- what the walk through the rounds asks -/
theorem smoke_put {m : gMine} {flows : List Int} {a0 a : List Int} {fl : Bool} (hm : MineIn m) (hf : FlowsIn m flows) (h : SmI m.Junctions a0 a fl) {k : Int} (hk : 0 ≤ k ∧ k < m.Airways.length) (h0 : ¬ at' flows k = 0 ∧ 0 ≤ at' a (m_impl_Airway_ways (at' m.Airways k) (at' flows k)).1)
    (h1 : at' a (m_impl_Airway_ways (at' m.Airways k) (at' flows k)).2 < 0 ∨ IntKind.wrap .i64 (at' a (m_impl_Airway_ways (at' m.Airways k) (at' flows k)).1 + m_impl_divUp (IntKind.wrap .i64 ((at' m.Airways k).Length * (at' m.Airways k).Section)) (m_impl_abs (at' flows k))) < at' a (m_impl_Airway_ways (at' m.Airways k) (at' flows k)).2) :
    SmI m.Junctions a0 (put' a (m_impl_Airway_ways (at' m.Airways k) (at' flows k)).2 (IntKind.wrap .i64 (at' a (m_impl_Airway_ways (at' m.Airways k) (at' flows k)).1 + m_impl_divUp (IntKind.wrap .i64 ((at' m.Airways k).Length * (at' m.Airways k).Section)) (m_impl_abs (at' flows k))))) true := by
  have hw := sm_wrap hm hf h.1 hk h0.1 h0.2
  have h5 := smUV (flows := flows) hm hk
  have h6 := smTime_rng hm hf hk h0.1
  simp only [smU, smTime] at hw h5 h6
  rw [hw] at h1 ⊢
  exact h.put hm.1.2 h5.1 h5.2 h0.2 (by omega) h1

end Go.Proofs.Ytahohnhmdlndfaa
