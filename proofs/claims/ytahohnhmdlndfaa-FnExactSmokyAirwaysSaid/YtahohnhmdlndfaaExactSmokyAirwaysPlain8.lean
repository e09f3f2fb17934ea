/-
  PLAIN LAWS about the models: no program in sight. Conditions: as each theorem states them.
-/
import Derived.Test.YtahohnhmdlndfaaExactSmokyAirwaysPlain7
set_option linter.unusedVariables false
set_option linter.unusedSimpArgs false
set_option linter.unusedSectionVars false
set_option linter.unnecessarySimpa false
namespace Go.Proofs.Ytahohnhmdlndfaa
open Go Go.RowKit Go.Proofs Go.Proofs.Ytahohnhmdlndfaa.E
/-! ## When smoke arrives -/
theorem fori_F {m : gMine} {flows : List Int} (hm : MineIn m) (hf : FlowsIn m flows) {a : List Int} (ha : SmB m.Junctions a) :
    (fori (smStepF m flows) m.Airways.length 0 (a, false)).1 = swp yes (smEs m flows) a ∧ SmI m.Junctions a (fori (smStepF m flows) m.Airways.length 0 (a, false)).1 (fori (smStepF m flows) m.Airways.length 0 (a, false)).2 ∧
      ((fori (smStepF m flows) m.Airways.length 0 (a, false)).2 = false → Fixd yes (smEs m flows) a) := by
  have h1 := fori_rel (st := smStepF m flows) (st' := smStep m flows) (R := fun _ x b => x.1 = b) (m := m.Airways.length) (i := 0) (s := (a, false)) (t := a) rfl (fun j s t _ _ h => by rw [(smStepF_1 m flows j s).1, h])
  have h2 := fori_inv (st := smStepF m flows) (I := fun _ x => SmI m.Junctions a x.1 x.2) (m := m.Airways.length) (i := 0) (s := (a, false)) (SmI.refl ha) (fun j s hj0 hj h => smStepF_I hm hf h ⟨hj0, by omega⟩)
  have h3 := fori_inv (st := smStepF m flows) (I := fun i x => x.2 = false → x.1 = a ∧ ∀ k : Int, 0 ≤ k → k < i → smStep m flows k a = a) (m := m.Airways.length) (i := 0) (s := (a, false)) (fun _ => ⟨rfl, fun k h1 h2 => by omega⟩) (fun j s hj0 hj h hF => by
    obtain ⟨e1, e2⟩ := smStepF_1 m flows j s
    obtain ⟨e3, e4⟩ := e2 hF
    obtain ⟨e5, e6⟩ := h e3
    rw [e5] at e4
    refine ⟨by rw [e1, e5, e4], fun k hk0 hk => ?_⟩
    by_cases hkj : k = j
    · subst hkj; exact e4
    · exact e6 k hk0 (by omega))
  refine ⟨h1.trans (sm_round hm hf _ 0 a ha (by omega) (by omega)).2, h2, fun hF => ?_⟩
  obtain ⟨_, h5⟩ := h3 hF
  intro e he
  obtain ⟨k, hk, rfl⟩ := List.mem_map.1 he
  rw [List.mem_filter, mem_irange] at hk
  have hk' : 0 ≤ k ∧ k < m.Airways.length := by omega
  have h6 := h5 k hk'.1 (by omega)
  have h0 : ¬ at' flows k = 0 := by simpa using hk.2
  rw [smStep_rlx hm hf ha hk', if_neg h0] at h6
  exact h6
theorem leave_rng {m : gMine} {flows : List Int} {f : gFire} (hm : MineIn m) (hf : FlowsIn m flows) (hF : FireIn m f) (h0 : ¬ at' flows f.Airway = 0) :
    m_impl_Mine_leaving m flows f = (m_spec_l17Leave m flows f, smV m flows f.Airway) ∧ 0 ≤ m_spec_l17Leave m flows f ∧ m_spec_l17Leave m flows f ≤ 1000000000 := by
  obtain ⟨hi, hA, hS⟩ := hF
  have ha := hm.at hi
  unfold AirIn at ha
  have hq := hf.at hi
  have hab := abs_rng hq h0
  have key : ∀ way : Int, 0 ≤ way ∧ way ≤ 10000 → IntKind.wrap .i64 (f.Start + IntKind.wrap .i64 (Int.tdiv (IntKind.wrap .i64 ((IntKind.wrap .i64 ((IntKind.wrap .i64 (way * (at' m.Airways f.Airway).Section)) + (m_impl_abs (at' flows f.Airway)))) - 1)) (m_impl_abs (at' flows f.Airway)))) = f.Start + m_impl_divUp (way * (at' m.Airways f.Airway).Section) (m_impl_abs (at' flows f.Airway)) ∧
      0 ≤ f.Start + m_impl_divUp (way * (at' m.Airways f.Airway).Section) (m_impl_abs (at' flows f.Airway)) ∧ f.Start + m_impl_divUp (way * (at' m.Airways f.Airway).Section) (m_impl_abs (at' flows f.Airway)) ≤ 1000000000 := by
    intro way hw
    have h1 := area_rng hw (b := (at' m.Airways f.Airway).Section) (by omega)
    have h2 := div_le (a := way * (at' m.Airways f.Airway).Section) (b := m_impl_abs (at' flows f.Airway)) (by omega) hab
    rw [wr64 (n := way * (at' m.Airways f.Airway).Section) (by omega)]
    have e : IntKind.wrap .i64 (Int.tdiv (IntKind.wrap .i64 ((IntKind.wrap .i64 ((way * (at' m.Airways f.Airway).Section) + (m_impl_abs (at' flows f.Airway)))) - 1)) (m_impl_abs (at' flows f.Airway))) = m_impl_divUp (way * (at' m.Airways f.Airway).Section) (m_impl_abs (at' flows f.Airway)) := rfl
    rw [e, wr64 (by omega)]
    exact ⟨rfl, by omega, by omega⟩
  have hz : (at' flows f.Airway == 0) = false := by simpa using h0
  simp only [m_impl_Mine_leaving, m_spec_l17Leave, hz, Bool.cond_false, JN, ← abs_eq, smV, m_impl_divUp]
  have hL : IntKind.wrap .i64 ((at' m.Airways f.Airway).Length - f.At) = (at' m.Airways f.Airway).Length - f.At := wr64 (by omega)
  by_cases hn : at' flows f.Airway < 0
  · have hp : ¬ 0 < at' flows f.Airway := by omega
    simp only [hn, hp, decide_true, decide_false, Bool.cond_true, Bool.cond_false]
    have := key f.At (by omega)
    rw [this.1]
    exact ⟨trivial, this.2⟩
  · have hp : 0 < at' flows f.Airway := by omega
    simp only [hn, hp, decide_true, decide_false, Bool.cond_true, Bool.cond_false, hL]
    have := key ((at' m.Airways f.Airway).Length - f.At) (by omega)
    rw [this.1]
    exact ⟨trivial, this.2⟩
/-- where smoke begins -/
def smStart (m : gMine) (flows : List Int) (f : gFire) : List Int := put' (List.replicate m.Junctions.toNat (-1)) (smV m flows f.Airway) (m_spec_l17Leave m flows f)
theorem smStart_SmB {m : gMine} {flows : List Int} {f : gFire} (hm : MineIn m) (hf : FlowsIn m flows) (hF : FireIn m f) (h0 : ¬ at' flows f.Airway = 0) : SmB m.Junctions (smStart m flows f) := by
  have h1 := (leave_rng hm hf hF h0).2
  have h2 := (smUV (flows := flows) hm hF.1).2
  exact SmB.start hm.1 rfl h2 h1
theorem sm_enough {m : gMine} {flows : List Int} {f : gFire} (hm : MineIn m) (hf : FlowsIn m flows) (hF : FireIn m f) (h0 : ¬ at' flows f.Airway = 0) : Fixd yes (smEs m flows) (swps yes (smEs m flows) m.Junctions.toNat (smStart m flows f)) := by
  have h1 := (leave_rng hm hf hF h0).2
  have h2 := (smUV (flows := flows) hm hF.1).2
  have hJ := hm.1
  refine enough (J := m.Junctions.toNat) (s := smV m flows f.Airway) (c := m_spec_l17Leave m flows f) (smEs_ok hm hf) (by simp [smStart, put_len]) (by omega) h1.1 (put_at ⟨h2.1, by simp; omega⟩) fun v hv0 hv hvs => ?_
  rw [smStart, put_at_ne h2.1 hv0 (fun e => hvs e.symm), at_rep hv0 (by omega)]
  omega
theorem swps_SmB {m : gMine} {flows : List Int} (hm : MineIn m) (hf : FlowsIn m flows) : ∀ (k : Nat) (a : List Int), SmB m.Junctions a → SmB m.Junctions (swps yes (smEs m flows) k a)
  | 0, _, h => h
  | k + 1, a, h => by
    obtain ⟨h1, h2⟩ := sm_round hm hf m.Airways.length 0 a h (by omega) (by omega)
    rw [h2] at h1
    exact swps_SmB hm hf k _ h1
theorem implArr_is {m : gMine} {flows : List Int} {f : gFire} (hm : MineIn m) (hf : FlowsIn m flows) (hF : FireIn m f) : m_impl_Mine_arrivals m flows f = if at' flows f.Airway = 0 then List.replicate m.Junctions.toNat (-1) else swps yes (smEs m flows) m.Junctions.toNat (smStart m flows f) := by
  simp only [m_impl_Mine_arrivals, rep_eq hm.1]
  by_cases h0 : at' flows f.Airway = 0
  · simp [h0]
  · have hz : (at' flows f.Airway == 0) = false := by simpa using h0
    rw [if_neg h0, hz, (leave_rng hm hf hF h0).1]
    simp only [Bool.cond_false]
    have hS := smStart_SmB hm hf hF h0
    have hfix := sm_enough hm hf hF h0
    have hpot := hS.pot hm.1.2
    refine LOOP_is (fun (x : List Int × Bool) => SmB m.Junctions x.1 ∧ (∃ r, x.1 = swps yes (smEs m flows) r (smStart m flows f)) ∧ (x.2 = false → Fixd yes (smEs m flows) x.1)) (fun x => pot x.1 + (bif x.2 then 1 else 0)) (fun _ => swps yes (smEs m flows) m.Junctions.toNat (smStart m flows f)) ?_ (x := (smStart m flows f, true)) ⟨hS, ⟨0, rfl⟩, fun h => by simp at h⟩ (by simp only [Bool.cond_true]; omega)
    rintro rec ⟨a, more⟩ ⟨ha, ⟨r, hr⟩, hx⟩ ih
    dsimp only at ha hr hx ih
    simp only [m_impl_Mine_arrivals_b1]
    cases more with
    | false =>
      simp only [Bool.cond_false]
      have := hx rfl
      rw [hr] at this ⊢
      exact fix_same this hfix
    | true =>
      simp only [Bool.cond_true] at ih ⊢
      have hin := LOOP_foriF (b := m_impl_Mine_arrivals_b2 m flows f rec (fun x1 => x1.1) (a, true)) (k := fun x2 => rec (x2.2.1, x2.2.2)) (n := (m.Airways.length : Int)) (fun _ _ => True) (smStepF m flows) (fun rc s i h1 h2 _ => by
        obtain ⟨b, fl⟩ := s
        simp only [m_impl_Mine_arrivals_b2, h2, decide_true, Bool.cond_true]
        show (bif (at' flows i == 0) || decide (at' b (smU m flows i) < 0) then rc (i + 1, b, fl) else bif decide (at' b (smV m flows i) < 0) || decide (IntKind.wrap .i64 (at' b (smU m flows i) + smTime m flows i) < at' b (smV m flows i)) then rc (i + 1, put' b (smV m flows i) (IntKind.wrap .i64 (at' b (smU m flows i) + smTime m flows i)), true) else rc (i + 1, b, fl)) = rc (i + 1, smStepF m flows i (b, fl))
        simp only [smStepF]
        cases (at' flows i == 0) || decide (at' b (smU m flows i) < 0) with
        | true => rfl
        | false =>
          simp only [Bool.cond_false]
          cases decide (at' b (smV m flows i) < 0) || decide (IntKind.wrap .i64 (at' b (smU m flows i) + smTime m flows i) < at' b (smV m flows i)) <;> rfl) (fun _ _ _ _ _ => trivial) (fun rc s _ => by simp [m_impl_Mine_arrivals_b2]) (((m.Airways.length : Int) - 0 : Int).toNat + 1) 0 (a, false) (by omega) (by omega) (by omega) trivial
      rw [hin]
      rw [show ((m.Airways.length : Int) - 0 : Int).toNat = m.Airways.length by omega]
      obtain ⟨g1, g2, g3⟩ := fori_F hm hf ha
      refine ih _ ⟨g2.1, ⟨r + 1, ?_⟩, fun hfl => ?_⟩ (g2.mu rfl)
      · rw [g1, hr, swps_add]; rfl
      · have hfx := g3 hfl
        rw [g1, fix_swp hfx]; exact hfx
theorem fori_swps {es : List (Int × Int × Int)} : ∀ (n : Nat) (i : Int) (a : List Int), fori (fun _ a => swp yes es a) n i a = swps yes es n a
  | 0, _, _ => rfl
  | n + 1, i, a => fori_swps n (i + 1) _
theorem time_eq (m : gMine) (flows : List Int) (k : Int) : m_spec_l03Time (at' m.Airways k) (at' flows k) = smTime m flows k := by
  simp only [m_spec_l03Time, smTime, m_impl_divUp, abs_eq]
theorem specArr_is {m : gMine} {flows : List Int} {f : gFire} (hm : MineIn m) (hf : FlowsIn m flows) (hF : FireIn m f) : m_spec_l17Arrival m flows f = if at' flows f.Airway = 0 then List.replicate m.Junctions.toNat (-1) else swps yes (smEs m flows) m.Junctions.toNat (smStart m flows f) := by
  have hJ := hm.1
  simp only [m_spec_l17Arrival]
  have h1 := LOOP_fori (b := m_spec_l17Arrival_b1 m flows f) (k := fun (x1 : (List Int) × Int) => bif (at' flows f.Airway) == 0 then x1.1 else LOOP (m_spec_l17Arrival_b2 m flows f x1) (fun (x2 : (List Int) × Int) => x2.1) ((m.Junctions - 0 : Int).toNat + 1) (put' x1.1 (m_spec_l13Start (at' m.Airways f.Airway) (IntKind.wrap .i64 (0 - (at' flows f.Airway)))) (m_spec_l17Leave m flows f), 0)) (n := m.Junctions) (fun _ xs => xs ++ [-1]) (fun rec xs i h0 h1 => by
    simp only [m_spec_l17Arrival_b1, h1, decide_true, Bool.cond_true]) (fun rec xs => by simp [m_spec_l17Arrival_b1]) ((m.Junctions - 0 : Int).toNat + 1) 0 [] (by omega) (by omega) (by omega)
  rw [h1]
  have hrep : ∀ (n : Nat) (i : Int), fori (fun _ xs => xs ++ [(-1 : Int)]) n i [] = List.replicate n (-1) := fun n i => by
    rw [fori_map (f := fun _ => (-1 : Int)), List.nil_append]
    apply List.ext_getElem?
    intro j
    by_cases hj : j < n
    · rw [List.getElem?_map, irange_get hj, List.getElem?_replicate, if_pos hj]; rfl
    · rw [List.getElem?_eq_none (by simp [irange_len]; omega), List.getElem?_eq_none (by simp; omega)]
  rw [hrep, show (m.Junctions - 0 : Int).toNat = m.Junctions.toNat by omega]
  by_cases h0 : at' flows f.Airway = 0
  · simp [h0]
  · have hz : (at' flows f.Airway == 0) = false := by simpa using h0
    rw [if_neg h0, hz]
    simp only [Bool.cond_false]
    have hq := hf.at hF.1
    rw [wr64 (n := 0 - at' flows f.Airway) (by omega), show 0 - at' flows f.Airway = -at' flows f.Airway by omega, ← ways_end h0]
    have hS := smStart_SmB hm hf hF h0
    have h2 := LOOP_foriI (b := m_spec_l17Arrival_b2 m flows f (List.replicate m.Junctions.toNat (-1), m.Junctions)) (k := fun (x2 : (List Int) × Int) => x2.1) (n := m.Junctions) (fun _ a => SmB m.Junctions a) (fun _ a => swp yes (smEs m flows) a) (fun rec a i hi0 hi ha => by
      simp only [m_spec_l17Arrival_b2, hi, decide_true, Bool.cond_true]
      have h3 := LOOP_foriF (b := m_spec_l17Arrival_b3 m flows f (List.replicate m.Junctions.toNat (-1), m.Junctions) rec (fun x2 => x2.1) (a, i)) (k := fun x3 => rec (x3.2, i + 1)) (n := (flows.length : Int)) (fun _ a => SmB m.Junctions a) (smStep m flows) (fun rc b k hk0 hk hb => by
        have hk' : 0 ≤ k ∧ k < m.Airways.length := by have := hf.1; omega
        have hqk := hf.at hk'
        simp only [m_spec_l17Arrival_b3, hk, decide_true, Bool.cond_true]
        by_cases hz : at' flows k = 0
        · simp [smStep, hz]
        · have hzb : (at' flows k == 0) = false := by simpa using hz
          have e1 : m_spec_l13Start (at' m.Airways k) (at' flows k) = smU m flows k := (ways_start hz).symm
          have e2 : m_spec_l13Start (at' m.Airways k) (IntKind.wrap .i64 (0 - at' flows k)) = smV m flows k := by
            rw [wr64 (n := 0 - at' flows k) (by omega), show 0 - at' flows k = -at' flows k by omega]; exact (ways_end hz).symm
          rw [hzb, time_eq, e1, e2]
          simp only [Bool.cond_false, smStep, hzb, Bool.false_or]
          cases decide (at' b (smU m flows k) < 0) with
          | true => rfl
          | false =>
            simp only [Bool.cond_false]
            cases decide (at' b (smV m flows k) < 0) || decide (IntKind.wrap .i64 (at' b (smU m flows k) + smTime m flows k) < at' b (smV m flows k)) <;> rfl)
        (fun b k hk0 hk hb => (smStep_SmB hm hf hb ⟨hk0, by have := hf.1; omega⟩).1) (fun rc b _ => by simp [m_spec_l17Arrival_b3]) (((flows.length : Int) - 0 : Int).toNat + 1) 0 a (by omega) (by omega) (by omega) ha
      rw [h3, show ((flows.length : Int) - 0 : Int).toNat = m.Airways.length by have := hf.1; omega, (sm_round hm hf m.Airways.length 0 a ha (by omega) (by omega)).2]
      rfl) (fun a i _ _ ha => by
        have h4 := sm_round hm hf m.Airways.length 0 a ha (by omega) (by omega)
        rw [h4.2] at h4; exact h4.1) (fun rec a _ => by simp [m_spec_l17Arrival_b2]) ((m.Junctions - 0 : Int).toNat + 1) 0 (smStart m flows f) (by omega) (by omega) (by omega) hS
    rw [show (m.Junctions - 0 : Int).toNat = m.Junctions.toNat by omega] at h2
    rw [fori_swps] at h2
    exact h2
theorem arrivals_eq {m : gMine} {flows : List Int} {f : gFire} (hm : MineIn m) (hf : FlowsIn m flows) (hF : FireIn m f) : m_impl_Mine_arrivals m flows f = m_spec_l17Arrival m flows f := by
  rw [implArr_is hm hf hF, specArr_is hm hf hF]
theorem arrivals_SmB {m : gMine} {flows : List Int} {f : gFire} (hm : MineIn m) (hf : FlowsIn m flows) (hF : FireIn m f) : SmB m.Junctions (m_spec_l17Arrival m flows f) ∧ ((m_spec_l17Arrival m flows f).length : Int) = m.Junctions := by
  have hJ := hm.1
  have h : SmB m.Junctions (m_spec_l17Arrival m flows f) := by
    rw [specArr_is hm hf hF]
    by_cases h0 : at' flows f.Airway = 0
    · rw [if_pos h0]
      refine ⟨by simp; omega, fun j hj0 hj => ?_⟩
      have := cntS_rng (List.replicate m.Junctions.toNat (-1))
      rw [at_rep hj0 (by omega)]; omega
    · rw [if_neg h0]; exact swps_SmB hm hf _ _ (smStart_SmB hm hf hF h0)
  exact ⟨h, h.1⟩
theorem start_walk {m : gMine} {flows : List Int} {f : gFire} (hm : MineIn m) (hf : FlowsIn m flows) (hF : FireIn m f) (h0 : ¬ at' flows f.Airway = 0) : SmB m.Junctions (put' (m_slices_Repeat_int64 ([(-1)] : List Int) m.Junctions) (m_impl_Mine_leaving m flows f).2 (m_impl_Mine_leaving m flows f).1) ∧
    pot (put' (m_slices_Repeat_int64 ([(-1)] : List Int) m.Junctions) (m_impl_Mine_leaving m flows f).2 (m_impl_Mine_leaving m flows f).1) + 1 < 300000000000 := by
  rw [rep_eq hm.1, (leave_rng hm hf hF h0).1]
  have h := smStart_SmB hm hf hF h0
  exact ⟨h, by have := h.pot hm.1.2; simp only [smStart] at this; dsimp only; omega⟩
theorem leave_in {m : gMine} {flows : List Int} {f : gFire} (hm : MineIn m) (hF : FireIn m f) (h0 : ¬ at' flows f.Airway = 0) : 0 ≤ (m_impl_Mine_leaving m flows f).2 ∧ (m_impl_Mine_leaving m flows f).2 < m.Junctions := by
  have h := (smUV (flows := flows) hm hF.1).2
  have hz : (at' flows f.Airway == 0) = false := by simpa using h0
  have e : (m_impl_Mine_leaving m flows f).2 = smV m flows f.Airway := by simp only [m_impl_Mine_leaving, hz, Bool.cond_false, JN, smV]; by_cases hn : at' flows f.Airway < 0 <;> simp [hn]
  rw [e]; exact h
theorem rep_len {c : Int} (hc : 1 ≤ c ∧ c ≤ 16) : ((m_slices_Repeat_int64 ([(-1)] : List Int) c).length : Int) = c := by
  rw [rep_eq hc]; simp; omega
theorem implArr_len {m : gMine} {flows : List Int} {f : gFire} (hm : MineIn m) (hf : FlowsIn m flows) (hF : FireIn m f) : ((m_impl_Mine_arrivals m flows f).length : Int) = m.Junctions := by
  rw [arrivals_eq hm hf hF]; exact (arrivals_SmB hm hf hF).2
theorem specStart_SmB {m : gMine} {flows : List Int} {f : gFire} {xs : List Int} (hm : MineIn m) : True := trivial

end Go.Proofs.Ytahohnhmdlndfaa
