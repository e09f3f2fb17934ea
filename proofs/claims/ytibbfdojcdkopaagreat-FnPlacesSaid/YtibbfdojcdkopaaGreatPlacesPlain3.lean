/-
  PLAIN LAWS about the models: no program in sight. Conditions: as each theorem states them.
-/
import Derived.Test.YtibbfdojcdkopaaGreatPlacesPlain2
set_option linter.unusedVariables false
set_option linter.unusedSimpArgs false
set_option linter.unusedSectionVars false
set_option linter.unnecessarySimpa false
namespace Go.Proofs.YtibbfdojcdkopaaGreat
open Go Go.RowKit Go.Proofs Go.Proofs.YtibbfdojcdkopaaGreat.E
/-! ## Flows and smoke, by the reference alone -/
def BZ (n_ : Int) : Int :=
  if n_ < (IntKind.wrap .i64 (0 - n_)) then (IntKind.wrap .i64 (0 - n_)) else n_
def Bv (a : Ar) (flow : Int) : Int × Int :=
  bif decide (flow < 0) then (a.To, a.From) else (a.From, a.To)
def m_impl_Mine_leaving (m_ : AB) (flows : List Int) (f : Da) : Int × Int :=
  bif (at' flows f.Airway) == 0 then (0, 0) else JN (fun j5 => bif decide ((at' flows f.Airway) < 0) then j5 f.At else j5 (IntKind.wrap .i64 ((at' m_.Airways f.Airway).Length - f.At))) (fun (v4 : Int) => (IntKind.wrap .i64 (f.Start + (BN (IntKind.wrap .i64 (v4 * (at' m_.Airways f.Airway).Section)) (BZ (at' flows f.Airway)))), (Bv (at' m_.Airways f.Airway) (at' flows f.Airway)).2))
def FlowsIn (m : AB) (flows : List Int) : Prop := flows.length = m.Airways.length ∧ ∀ y ∈ flows, -100000 ≤ y ∧ y ≤ 100000
theorem flows_all {m : AB} {flows : List Int} {b : (Int → Bool) → (Int → Bool) → Int → Bool} (hb : ∀ rec k i, 0 ≤ i → b rec k i = bif decide (i < (flows.length : Int)) then (bif !(Dm (at' flows i)) then false else rec (i + 1)) else k i) :
    LOOP b (fun _ => (flows.length : Int) == (m.Airways.length : Int)) (((flows.length : Int) - 0 : Int).toNat + 1) 0 = true ↔ FlowsIn m flows := by
  rw [LOOP_all (n := flows.length) hb _ 0 (by omega) (by omega) (by omega)]
  simp only [Dm, AR, beq_iff_eq, Bool.not_eq_false', Bool.and_eq_true, decide_eq_true_eq, FlowsIn]
  constructor
  · rintro ⟨h1, h2⟩; exact ⟨by omega, all_at.2 fun j hj => h1 j (by omega) hj⟩
  · rintro ⟨h1, h2⟩; exact ⟨fun j _ hj => at_all h2 ⟨by omega, by omega⟩, by omega⟩
theorem FlowsIn.at {m : AB} {flows : List Int} {i : Int} (h : FlowsIn m flows) (hi : 0 ≤ i ∧ i < m.Airways.length) : -100000 ≤ at' flows i ∧ at' flows i ≤ 100000 := at_all h.2 (by have := h.1; omega)
theorem abs_eq (n : Int) : BZ n = CJ n := by
  simp only [BZ, CJ, AC]
  generalize IntKind.wrap .i64 (0 - n) = w
  by_cases h : n < w
  · have h2 : ¬ w < n := by omega
    simp [h, h2]
  · by_cases h2 : w < n
    · simp [h, h2]
    · have : w = n := by omega
      simp [this]
theorem abs_val {n : Int} (h : -100000 ≤ n ∧ n ≤ 100000) : BZ n = if n < 0 then -n else n := by
  simp only [BZ]
  rw [wr64 (n := 0 - n) (by omega)]
  split <;> split <;> omega
theorem ways_in {J : Int} {a : Ar} (q : Int) (h : AirIn J a) : 0 ≤ (Bv a q).1 ∧ (Bv a q).1 < J ∧ 0 ≤ (Bv a q).2 ∧ (Bv a q).2 < J := by
  unfold AirIn at h
  simp only [Bv]
  by_cases hq : q < 0 <;> simp [hq] <;> omega
theorem start_in {J : Int} {a : Ar} (q : Int) (h : AirIn J a) : 0 ≤ Bi a q ∧ Bi a q < J := by
  unfold AirIn at h
  simp only [Bi]
  by_cases hq : 0 < q <;> simp [hq] <;> omega
theorem ways_start {a : Ar} {q : Int} (h : q ≠ 0) : (Bv a q).1 = Bi a q := by
  simp only [Bv, Bi]
  by_cases hq : q < 0
  · have : ¬ 0 < q := by omega
    simp [hq, this]
  · have : 0 < q := by omega
    simp [hq, this]
theorem ways_end {a : Ar} {q : Int} (h : q ≠ 0) : (Bv a q).2 = Bi a (-q) := by
  simp only [Bv, Bi]
  by_cases hq : q < 0
  · have : 0 < -q := by omega
    simp [hq, this]
  · have : ¬ 0 < -q := by omega
    simp [hq, this]
theorem l07Flows_iff {m : AB} {flows : List Int} : De m flows = true ↔ FlowsIn m flows := flows_all (fun rec k i _ => rfl)
def FireIn (m : AB) (f : Da) : Prop := (0 ≤ f.Airway ∧ f.Airway < m.Airways.length) ∧ (0 ≤ f.At ∧ f.At ≤ (at' m.Airways f.Airway).Length) ∧ 0 ≤ f.Start ∧ f.Start ≤ 36000
theorem l17Fire_imp {m : AB} {f : Da} (h : CZ m f = true) : FireIn m f := by
  simp only [CZ, DB, AR, Bool.and_eq_true, decide_eq_true_eq] at h
  unfold FireIn; omega
theorem l17Ask_imp {m : AB} {flows : List Int} {f : Da} (h : Cd m flows f = 0) : MineIn m ∧ FlowsIn m flows ∧ FireIn m f := by
  simp only [Cd] at h
  cases h1 : AD m <;> cases h2 : CZ m f <;> cases h3 : De m flows <;> simp [h1, h2, h3] at h
  exact ⟨l04Ok_imp h1, l07Flows_iff.1 h3, l17Fire_imp h2⟩
theorem l17Ask_impM {m : AB} {flows : List Int} {f : Da} (h : Cd m flows f = 0) : MineIn m := (l17Ask_imp h).1
theorem l17Ask_impF {m : AB} {flows : List Int} {f : Da} (h : Cd m flows f = 0) : FlowsIn m flows := (l17Ask_imp h).2.1
theorem l17Ask_impS {m : AB} {flows : List Int} {f : Da} (h : Cd m flows f = 0) : FireIn m f := (l17Ask_imp h).2.2
theorem l17Ask_impJ {m : AB} {flows : List Int} {f : Da} (h : Cd m flows f = 0) : (1 ≤ m.Junctions ∧ m.Junctions ≤ 16) ∧ m.Airways.length ≤ 24 ∧ flows.length = m.Airways.length ∧ (0 ≤ f.Airway ∧ f.Airway < m.Airways.length) := ⟨(l17Ask_imp h).1.1, (l17Ask_imp h).1.2.1, (l17Ask_imp h).2.1.1, (l17Ask_imp h).2.2.1⟩
/-- rounded up, and not great -/
theorem div_le {a b : Int} (ha : 0 ≤ a ∧ a ≤ 500000000) (hb : 1 ≤ b ∧ b ≤ 100000) : 0 ≤ BN a b ∧ BN a b ≤ 500000000 := by
  simp only [BN]
  rw [wr64 (n := a + b) (by omega), wr64 (n := a + b - 1) (by omega), Int.tdiv_eq_ediv_of_nonneg (by omega)]
  have h0 : 0 ≤ (a + b - 1) / b := Int.ediv_nonneg (by omega) (by omega)
  have h1 : (a + b - 1) / b ≤ 500000000 := by
    have : (a + b - 1) / b < 500000001 := Int.ediv_lt_of_lt_mul (by omega) (by
      have h2 : 500000001 * 1 ≤ 500000001 * b := by omega
      have h3 : a + b - 1 < 500000001 * b := by omega
      omega)
    omega
  rw [wr64 (by omega)]
  exact ⟨h0, h1⟩
theorem abs_rng {q : Int} (h : -100000 ≤ q ∧ q ≤ 100000) (h0 : ¬ q = 0) : 1 ≤ BZ q ∧ BZ q ≤ 100000 := by
  rw [abs_val h]; split <;> omega
theorem area_rng {a b : Int} (ha : 0 ≤ a ∧ a ≤ 10000) (hb : 50 ≤ b ∧ b ≤ 5000) : 0 ≤ a * b ∧ a * b ≤ 50000000 := by
  refine ⟨Int.mul_nonneg (by omega) (by omega), ?_⟩
  have h1 : a * b ≤ 10000 * b := Int.mul_le_mul_of_nonneg_right ha.2 (by omega)
  omega
/-- how long smoke takes through an airway -/
def smTime (m : AB) (flows : List Int) (k : Int) : Int := BN (IntKind.wrap .i64 ((at' m.Airways k).Length * (at' m.Airways k).Section)) (BZ (at' flows k))
theorem smTime_rng {m : AB} {flows : List Int} (hm : MineIn m) (hf : FlowsIn m flows) {k : Int} (hk : 0 ≤ k ∧ k < m.Airways.length) (h0 : ¬ at' flows k = 0) : 0 ≤ smTime m flows k ∧ smTime m flows k ≤ 500000000 := by
  have ha := hm.at hk
  unfold AirIn at ha
  have h1 := area_rng (a := (at' m.Airways k).Length) (b := (at' m.Airways k).Section) (by omega) (by omega)
  have h2 := abs_rng (hf.at hk) h0
  simp only [smTime]
  rw [wr64 (n := (at' m.Airways k).Length * (at' m.Airways k).Section) (by omega)]
  exact div_le (by omega) h2
def smU (m : AB) (flows : List Int) (k : Int) : Int := (Bv (at' m.Airways k) (at' flows k)).1
def smV (m : AB) (flows : List Int) (k : Int) : Int := (Bv (at' m.Airways k) (at' flows k)).2
def smE (m : AB) (flows : List Int) (k : Int) : Int × Int × Int := (smU m flows k, smV m flows k, smTime m flows k)
def smEs (m : AB) (flows : List Int) : List (Int × Int × Int) := ((irange 0 m.Airways.length).filter (fun k => !(at' flows k == 0))).map (smE m flows)
def yes (_ _ : Int) : Bool := true
theorem smUV {m : AB} {flows : List Int} (hm : MineIn m) {k : Int} (hk : 0 ≤ k ∧ k < m.Airways.length) : (0 ≤ smU m flows k ∧ smU m flows k < m.Junctions) ∧ 0 ≤ smV m flows k ∧ smV m flows k < m.Junctions := by
  have := ways_in (at' flows k) (hm.at hk)
  unfold smU smV; omega
/-- one airway in a round -/
def smStep (m : AB) (flows : List Int) (k : Int) (a : List Int) : List Int := bif (at' flows k == 0) || decide (at' a (smU m flows k) < 0) then a else bif decide (at' a (smV m flows k) < 0) || decide (IntKind.wrap .i64 (at' a (smU m flows k) + smTime m flows k) < at' a (smV m flows k)) then put' a (smV m flows k) (IntKind.wrap .i64 (at' a (smU m flows k) + smTime m flows k)) else a
theorem sm_wrap {m : AB} {flows : List Int} (hm : MineIn m) (hf : FlowsIn m flows) {a : List Int} (ha : SmB m.Junctions a) {k : Int} (hk : 0 ≤ k ∧ k < m.Airways.length) (h0 : ¬ at' flows k = 0) (h1 : 0 ≤ at' a (smU m flows k)) :
    IntKind.wrap .i64 (at' a (smU m flows k) + smTime m flows k) = at' a (smU m flows k) + smTime m flows k := by
  have h2 := (smUV (flows := flows) hm hk).1
  have h3 := ha.hi hm.1.2 h2.1 h2.2
  have h4 := smTime_rng hm hf hk h0
  exact wr64 (by omega)
theorem smStep_rlx {m : AB} {flows : List Int} (hm : MineIn m) (hf : FlowsIn m flows) {a : List Int} (ha : SmB m.Junctions a) {k : Int} (hk : 0 ≤ k ∧ k < m.Airways.length) : smStep m flows k a = if at' flows k = 0 then a else rlx yes (smE m flows k) a := by
  simp only [smStep, rlx, smE, yes, Bool.and_true]
  by_cases h0 : at' flows k = 0
  · simp [h0]
  · have hb : (at' flows k == 0) = false := by simpa using h0
    rw [if_neg h0, hb, Bool.false_or]
    by_cases h1 : at' a (smU m flows k) < 0
    · have : ¬ 0 ≤ at' a (smU m flows k) := by omega
      simp [h1, this]
    · have h1' : 0 ≤ at' a (smU m flows k) := by omega
      rw [sm_wrap hm hf ha hk h0 h1']
      by_cases c1 : at' a (smV m flows k) < 0 <;> by_cases c2 : at' a (smU m flows k) + smTime m flows k < at' a (smV m flows k) <;> simp [h1, h1', c1, c2]
theorem smStep_SmB {m : AB} {flows : List Int} (hm : MineIn m) (hf : FlowsIn m flows) {a : List Int} (ha : SmB m.Junctions a) {k : Int} (hk : 0 ≤ k ∧ k < m.Airways.length) : SmB m.Junctions (smStep m flows k a) ∧ (smStep m flows k a = a ∨ pot (smStep m flows k a) < pot a) := by
  rw [smStep_rlx hm hf ha hk]
  by_cases h0 : at' flows k = 0
  · rw [if_pos h0]; exact ⟨ha, .inl rfl⟩
  · rw [if_neg h0]
    rcases rlx_cases (safe := yes) (smE m flows k) a with h | ⟨h1, h2, _, h4⟩
    · rw [h]; exact ⟨ha, .inl rfl⟩
    · rw [h4]
      have h5 := smUV (flows := flows) hm hk
      have h6 := smTime_rng hm hf hk h0
      obtain ⟨h7, h8⟩ := ha.put hm.1.2 (u := smU m flows k) (v := smV m flows k) (w := smTime m flows k) h5.1 h5.2 h1 (by omega) h2
      exact ⟨h7, .inr h8⟩
/-- the whole round -/
theorem sm_round {m : AB} {flows : List Int} (hm : MineIn m) (hf : FlowsIn m flows) : ∀ (n : Nat) (i : Int) (a : List Int), SmB m.Junctions a → 0 ≤ i → i + n ≤ m.Airways.length → SmB m.Junctions (fori (smStep m flows) n i a) ∧ fori (smStep m flows) n i a = swp yes (((irange i n).filter (fun k => !(at' flows k == 0))).map (smE m flows)) a
  | 0, i, a, ha, _, _ => ⟨ha, rfl⟩
  | n + 1, i, a, ha, h0, h1 => by
    have hk : 0 ≤ i ∧ i < m.Airways.length := by omega
    obtain ⟨h2, _⟩ := smStep_SmB hm hf ha hk
    obtain ⟨h3, h4⟩ := sm_round hm hf n (i + 1) _ h2 (by omega) (by omega)
    refine ⟨h3, ?_⟩
    show fori (smStep m flows) n (i + 1) (smStep m flows i a) = _
    rw [h4, smStep_rlx hm hf ha hk]
    simp only [irange, List.filter_cons]
    by_cases hz : at' flows i = 0
    · simp [hz]
    · have hb : (!(at' flows i == 0)) = true := by simpa using hz
      rw [if_neg hz, if_pos hb]
      rfl
theorem LOOP_foriF {ρ σ : Type} {n : Int} {b : (Int × σ → ρ) → (Int × σ → ρ) → Int × σ → ρ} {k : Int × σ → ρ} (I : Int → σ → Prop) (st : Int → σ → σ) (hb : ∀ rec s i, 0 ≤ i → i < n → I i s → b rec k (i, s) = rec (i + 1, st i s)) (hI : ∀ s i, 0 ≤ i → i < n → I i s → I (i + 1) (st i s)) (he : ∀ rec s, I n s → b rec k (n, s) = k (n, s)) :
    ∀ (f : Nat) (i : Int) (s : σ), 0 ≤ i → i ≤ n → (n - i).toNat < f → I i s → LOOP b k f (i, s) = k (n, fori st (n - i).toNat i s)
  | 0, _, _, _, _, h, _ => by omega
  | f + 1, i, s, h0, h1, h2, hi => by
    simp only [LOOP]
    by_cases h : i < n
    · rw [hb _ _ _ h0 h hi, LOOP_foriF I st hb hI he f (i + 1) _ (by omega) (by omega) (by omega) (hI _ _ h0 h hi)]
      rw [show (n - i).toNat = (n - (i + 1)).toNat + 1 by omega]; rfl
    · have : i = n := by omega
      subst this
      rw [he _ _ hi]; simp [fori]

end Go.Proofs.YtibbfdojcdkopaaGreat
