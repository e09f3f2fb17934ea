/-
  PLAIN LAWS about the models: no program in sight. Conditions: as each theorem states them.
-/
import Derived.Test.YtibbfdojcdkopaaGreatPlacesPlain3
set_option linter.unusedVariables false
set_option linter.unusedSimpArgs false
set_option linter.unusedSectionVars false
set_option linter.unnecessarySimpa false
namespace Go.Proofs.YtibbfdojcdkopaaGreat
open Go Go.RowKit Go.Proofs Go.Proofs.YtibbfdojcdkopaaGreat.E
/-! ## When smoke arrives -/
theorem leave_rng {m : AB} {flows : List Int} {f : Da} (hm : MineIn m) (hf : FlowsIn m flows) (hF : FireIn m f) (h0 : ¬ at' flows f.Airway = 0) :
    m_impl_Mine_leaving m flows f = (BU m flows f, smV m flows f.Airway) ∧ 0 ≤ BU m flows f ∧ BU m flows f ≤ 1000000000 := by
  obtain ⟨hi, hA, hS⟩ := hF
  have ha := hm.at hi
  unfold AirIn at ha
  have hq := hf.at hi
  have hab := abs_rng hq h0
  have key : ∀ way : Int, 0 ≤ way ∧ way ≤ 10000 → IntKind.wrap .i64 (f.Start + IntKind.wrap .i64 (Int.tdiv (IntKind.wrap .i64 ((IntKind.wrap .i64 ((IntKind.wrap .i64 (way * (at' m.Airways f.Airway).Section)) + (BZ (at' flows f.Airway)))) - 1)) (BZ (at' flows f.Airway)))) = f.Start + BN (way * (at' m.Airways f.Airway).Section) (BZ (at' flows f.Airway)) ∧
      0 ≤ f.Start + BN (way * (at' m.Airways f.Airway).Section) (BZ (at' flows f.Airway)) ∧ f.Start + BN (way * (at' m.Airways f.Airway).Section) (BZ (at' flows f.Airway)) ≤ 1000000000 := by
    intro way hw
    have h1 := area_rng hw (b := (at' m.Airways f.Airway).Section) (by omega)
    have h2 := div_le (a := way * (at' m.Airways f.Airway).Section) (b := BZ (at' flows f.Airway)) (by omega) hab
    rw [wr64 (n := way * (at' m.Airways f.Airway).Section) (by omega)]
    have e : IntKind.wrap .i64 (Int.tdiv (IntKind.wrap .i64 ((IntKind.wrap .i64 ((way * (at' m.Airways f.Airway).Section) + (BZ (at' flows f.Airway)))) - 1)) (BZ (at' flows f.Airway))) = BN (way * (at' m.Airways f.Airway).Section) (BZ (at' flows f.Airway)) := rfl
    rw [e, wr64 (by omega)]
    exact ⟨rfl, by omega, by omega⟩
  have hz : (at' flows f.Airway == 0) = false := by simpa using h0
  simp only [m_impl_Mine_leaving, BU, hz, Bool.cond_false, JN, ← abs_eq, smV, BN]
  have hL : IntKind.wrap .i64 ((at' m.Airways f.Airway).Length - f.At) = (at' m.Airways f.Airway).Length - f.At := wr64 (by omega)
  by_cases hn : at' flows f.Airway < 0
  · have hp : ¬ 0 < at' flows f.Airway := by omega
    simp only [hn, hp, decide_true, decide_false, Bool.cond_true, Bool.cond_false]
    have := key f.At (by omega)
    rw [this.1]
    exact ⟨trivial, this.2⟩
  · have hp : 0 < at' flows f.Airway := by omega
    simp only [hn, hp, decide_true, decide_false, Bool.cond_true, Bool.cond_false, hL]
    have := key ((at' m.Airways f.Airway).Length - f.At) (by omega)
    rw [this.1]
    exact ⟨trivial, this.2⟩
/-- where smoke begins -/
def smStart (m : AB) (flows : List Int) (f : Da) : List Int := put' (List.replicate m.Junctions.toNat (-1)) (smV m flows f.Airway) (BU m flows f)
theorem smStart_SmB {m : AB} {flows : List Int} {f : Da} (hm : MineIn m) (hf : FlowsIn m flows) (hF : FireIn m f) (h0 : ¬ at' flows f.Airway = 0) : SmB m.Junctions (smStart m flows f) := by
  have h1 := (leave_rng hm hf hF h0).2
  have h2 := (smUV (flows := flows) hm hF.1).2
  exact SmB.start hm.1 rfl h2 h1
theorem swps_SmB {m : AB} {flows : List Int} (hm : MineIn m) (hf : FlowsIn m flows) : ∀ (k : Nat) (a : List Int), SmB m.Junctions a → SmB m.Junctions (swps yes (smEs m flows) k a)
  | 0, _, h => h
  | k + 1, a, h => by
    obtain ⟨h1, h2⟩ := sm_round hm hf m.Airways.length 0 a h (by omega) (by omega)
    rw [h2] at h1
    exact swps_SmB hm hf k _ h1
theorem fori_swps {es : List (Int × Int × Int)} : ∀ (n : Nat) (i : Int) (a : List Int), fori (fun _ a => swp yes es a) n i a = swps yes es n a
  | 0, _, _ => rfl
  | n + 1, i, a => fori_swps n (i + 1) _
theorem time_eq (m : AB) (flows : List Int) (k : Int) : Cv (at' m.Airways k) (at' flows k) = smTime m flows k := by
  simp only [Cv, smTime, BN, abs_eq]
theorem specArr_is {m : AB} {flows : List Int} {f : Da} (hm : MineIn m) (hf : FlowsIn m flows) (hF : FireIn m f) : BQ m flows f = if at' flows f.Airway = 0 then List.replicate m.Junctions.toNat (-1) else swps yes (smEs m flows) m.Junctions.toNat (smStart m flows f) := by
  have hJ := hm.1
  simp only [BQ]
  have h1 := LOOP_fori (b := Cq m flows f) (k := fun (x1 : (List Int) × Int) => bif (at' flows f.Airway) == 0 then x1.1 else LOOP (B3 m flows f x1) (fun (x2 : (List Int) × Int) => x2.1) ((m.Junctions - 0 : Int).toNat + 1) (put' x1.1 (Bi (at' m.Airways f.Airway) (IntKind.wrap .i64 (0 - (at' flows f.Airway)))) (BU m flows f), 0)) (n := m.Junctions) (fun _ xs => xs ++ [-1]) (fun rec xs i h0 h1 => by
    simp only [Cq, h1, decide_true, Bool.cond_true]) (fun rec xs => by simp [Cq]) ((m.Junctions - 0 : Int).toNat + 1) 0 [] (by omega) (by omega) (by omega)
  rw [h1]
  have hrep : ∀ (n : Nat) (i : Int), fori (fun _ xs => xs ++ [(-1 : Int)]) n i [] = List.replicate n (-1) := fun n i => by
    rw [fori_map (f := fun _ => (-1 : Int)), List.nil_append]
    apply List.ext_getElem?
    intro j
    by_cases hj : j < n
    · rw [List.getElem?_map, irange_get hj, List.getElem?_replicate, if_pos hj]; rfl
    · rw [List.getElem?_eq_none (by simp [irange_len]; omega), List.getElem?_eq_none (by simp; omega)]
  rw [hrep, show (m.Junctions - 0 : Int).toNat = m.Junctions.toNat by omega]
  by_cases h0 : at' flows f.Airway = 0
  · simp [h0]
  · have hz : (at' flows f.Airway == 0) = false := by simpa using h0
    rw [if_neg h0, hz]
    simp only [Bool.cond_false]
    have hq := hf.at hF.1
    rw [wr64 (n := 0 - at' flows f.Airway) (by omega), show 0 - at' flows f.Airway = -at' flows f.Airway by omega, ← ways_end h0]
    have hS := smStart_SmB hm hf hF h0
    have h2 := LOOP_foriI (b := B3 m flows f (List.replicate m.Junctions.toNat (-1), m.Junctions)) (k := fun (x2 : (List Int) × Int) => x2.1) (n := m.Junctions) (fun _ a => SmB m.Junctions a) (fun _ a => swp yes (smEs m flows) a) (fun rec a i hi0 hi ha => by
      simp only [B3, hi, decide_true, Bool.cond_true]
      have h3 := LOOP_foriF (b := Cp m flows f (List.replicate m.Junctions.toNat (-1), m.Junctions) rec (fun x2 => x2.1) (a, i)) (k := fun x3 => rec (x3.2, i + 1)) (n := (flows.length : Int)) (fun _ a => SmB m.Junctions a) (smStep m flows) (fun rc b k hk0 hk hb => by
        have hk' : 0 ≤ k ∧ k < m.Airways.length := by have := hf.1; omega
        have hqk := hf.at hk'
        simp only [Cp, hk, decide_true, Bool.cond_true]
        by_cases hz : at' flows k = 0
        · simp [smStep, hz]
        · have hzb : (at' flows k == 0) = false := by simpa using hz
          have e1 : Bi (at' m.Airways k) (at' flows k) = smU m flows k := (ways_start hz).symm
          have e2 : Bi (at' m.Airways k) (IntKind.wrap .i64 (0 - at' flows k)) = smV m flows k := by
            rw [wr64 (n := 0 - at' flows k) (by omega), show 0 - at' flows k = -at' flows k by omega]; exact (ways_end hz).symm
          rw [hzb, time_eq, e1, e2]
          simp only [Bool.cond_false, smStep, hzb, Bool.false_or]
          cases decide (at' b (smU m flows k) < 0) with
          | true => rfl
          | false =>
            simp only [Bool.cond_false]
            cases decide (at' b (smV m flows k) < 0) || decide (IntKind.wrap .i64 (at' b (smU m flows k) + smTime m flows k) < at' b (smV m flows k)) <;> rfl)
        (fun b k hk0 hk hb => (smStep_SmB hm hf hb ⟨hk0, by have := hf.1; omega⟩).1) (fun rc b _ => by simp [Cp]) (((flows.length : Int) - 0 : Int).toNat + 1) 0 a (by omega) (by omega) (by omega) ha
      rw [h3, show ((flows.length : Int) - 0 : Int).toNat = m.Airways.length by have := hf.1; omega, (sm_round hm hf m.Airways.length 0 a ha (by omega) (by omega)).2]
      rfl) (fun a i _ _ ha => by
        have h4 := sm_round hm hf m.Airways.length 0 a ha (by omega) (by omega)
        rw [h4.2] at h4; exact h4.1) (fun rec a _ => by simp [B3]) ((m.Junctions - 0 : Int).toNat + 1) 0 (smStart m flows f) (by omega) (by omega) (by omega) hS
    rw [show (m.Junctions - 0 : Int).toNat = m.Junctions.toNat by omega] at h2
    rw [fori_swps] at h2
    exact h2
theorem arrivals_SmB {m : AB} {flows : List Int} {f : Da} (hm : MineIn m) (hf : FlowsIn m flows) (hF : FireIn m f) : SmB m.Junctions (BQ m flows f) ∧ ((BQ m flows f).length : Int) = m.Junctions := by
  have hJ := hm.1
  have h : SmB m.Junctions (BQ m flows f) := by
    rw [specArr_is hm hf hF]
    by_cases h0 : at' flows f.Airway = 0
    · rw [if_pos h0]
      refine ⟨by simp; omega, fun j hj0 hj => ?_⟩
      have := cntS_rng (List.replicate m.Junctions.toNat (-1))
      rw [at_rep hj0 (by omega)]; omega
    · rw [if_neg h0]; exact swps_SmB hm hf _ _ (smStart_SmB hm hf hF h0)
  exact ⟨h, h.1⟩
end Go.Proofs.YtibbfdojcdkopaaGreat
