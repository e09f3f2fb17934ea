/-
  PLAIN LAWS about the models: no program in sight. Conditions: as each theorem states them.
-/
import Derived.Test.YtchjibndocnnhaaCrewsPlain25
set_option linter.unusedVariables false
set_option linter.unusedSimpArgs false
set_option linter.unusedSectionVars false
set_option linter.unnecessarySimpa false
namespace Go.Proofs.Ytchjibndocnnhaa
open Go Go.RowKit Go.Proofs Go.Proofs.Ytchjibndocnnhaa.E
/-! ## FnCrews: put together -/
theorem shifts_part {m : gMine} {flows : List Int} {list : List gJob} (hc : m_impl_jobsCode m flows list = 0) (hl8 : list.length ≤ 8) {L M : List Int} {n : Int} (hf : FlowsIn m flows) (hn : 0 ≤ n) (hL : Comp m flows list n [] 0 L) (hmin : ∀ n', 0 ≤ n' → n' < n → ∀ L, ¬ Comp m flows list n' [] 0 L) (hx : ∀ T, Up 0 list.length T → FitW m flows list T → T.length ≤ M.length) (hM : M.length ≤ 8) :
    ((((((L.length : Int) != (list.length : Int)) || (decide (n < 0))) || (decide ((list.length : Int) < n))) || ((decide (0 < (list.length : Int))) && (decide ((IntKind.wrap .i64 ((M.length : Int) * n)) < (list.length : Int))))) || ((decide (n ≤ 1)) != (((m_impl_ShortAirways m flows list).1.length : Int) == 0))) = false := by
  obtain ⟨h1, h2, h3⟩ := shifts_law hf hn hL hmin
  have hone := one_shift hf (jobsCode_imp hc).2.2 hn hL hmin
  have hmul := most_mul hx h1 h2
  have hle : (M.length : Int) * n ≤ 8 * 8 := Int.mul_le_mul (by omega) (by omega) hn (by omega)
  have e1 : ((L.length : Int) != (list.length : Int)) = false := by simp; omega
  have e2 : decide (n < 0) = false := decide_eq_false (by omega)
  have e3 : decide ((list.length : Int) < n) = false := decide_eq_false (by omega)
  have e4 : decide ((IntKind.wrap .i64 ((M.length : Int) * n)) < (list.length : Int)) = false := decide_eq_false (by rw [wr64 (by omega)]; omega)
  have e5 : decide (n ≤ 1) = (((m_impl_ShortAirways m flows list).1.length : Int) == 0) := by
    rw [Bool.eq_iff_iff, decide_eq_true_eq, short_nil hc]; exact hone
  rw [e1, e2, e3, e4, e5]
  simp
theorem tot_ppl {m : gMine} {list : List gJob} (hj : JobsIn m list) {S : List Int} (h : Up 0 list.length S) : 0 ≤ tot (ppl list) S ∧ tot (ppl list) S ≤ 40 * S.length :=
  tot_rng fun i hi => by have := at_all hj.2 (i := i) (h.2 i hi); simp only [ppl]; omega
theorem r8jobs {more : List Int} {m : gMine} : m_spec_l23List m (m_spec_R8Jobs more m) = true ∧ (m_spec_R8Jobs more m).length ≤ 8 := by
  simp only [m_spec_R8Jobs]
  cases h : ((!(m_spec_l23List m (m_spec_l23DrawList (m_spec_l00From more) m).1)) || (decide (8 < ((m_spec_l23DrawList (m_spec_l00From more) m).1.length : Int)))) with
  | true => simp only [Bool.cond_true]; exact ⟨rfl, by simp⟩
  | false =>
    simp only [Bool.or_eq_false_iff, Bool.not_eq_false', decide_eq_false_iff_not] at h
    simp only [Bool.cond_false]; exact ⟨h.1, by omega⟩
def r8fl (more : List Int) (k : Int) : Int := IntKind.wrap .i64 (300 + (m_laws_r8Wide more (IntKind.wrap .i64 (2 * k)) 1500))
theorem r8fl_rng {more : List Int} (hc : ∀ y ∈ more, 0 ≤ y ∧ y ≤ 255) {k : Int} (hk : 0 ≤ k ∧ k < 24) : 300 ≤ r8fl more k ∧ r8fl more k ≤ 1800 := by
  have h := wide_rng hc (k := 2 * k) (n := 1500) (by omega) (by omega)
  simp only [r8fl]
  rw [wr64 (n := 2 * k) (by omega), wr64 (by omega)]; omega
theorem bif_ff' {c r : Bool} (h : c = false) (h2 : r = true) : (bif c then false else r) = true := by rw [h, h2]; rfl
theorem idx_loop {ρ : Type} {shifts : List Int} {s : Int} {b : (List Int × Int → ρ) → (List Int × Int → ρ) → List Int × Int → ρ} {k : List Int × Int → ρ}
    (hb : ∀ rec x, b rec k x = bif decide (x.2 < (shifts.length : Int)) then bif (at' shifts x.2) == s then rec (x.1 ++ ([x.2] : List Int), x.2 + 1) else rec (x.1, x.2 + 1) else k (x.1, x.2)) :
    LOOP b k (((shifts.length : Int) - 0 : Int).toNat + 1) (([] : List Int), 0) = k (idxS shifts s, (shifts.length : Int)) := by
  have h := LOOP_fori (b := b) (k := k) (n := (shifts.length : Int)) (fun i xs => bif (at' shifts i) == s then xs ++ [i] else xs) (fun rec xs i h0 h1 => by
    rw [hb]; simp only [h1, decide_true, Bool.cond_true]; cases (at' shifts i) == s <;> rfl) (fun rec xs => by rw [hb]; simp) (((shifts.length : Int) - 0 : Int).toNat + 1) 0 [] (by omega) (by omega) (by omega)
  rw [h, show ((shifts.length : Int) - 0).toNat = shifts.length by omega, fori_collect (f := fun i => i), List.nil_append]
  rfl
theorem law_FnCrews (code : List Int) (more : List Int) (hp1 : code.length ≤ 9223372036854775807 ∧ ∀ y ∈ code, 0 ≤ y ∧ y ≤ 255) (hp2 : more.length ≤ 9223372036854775807 ∧ ∀ y ∈ more, 0 ≤ y ∧ y ≤ 255) : m_laws_FnCrews code more = true := by
  have hm := r8mine_in hp1.2
  have hmv := r8mine_ok hp1.2
  have hjobs := @r8jobs more (m_spec_R8Mine code)
  simp only [m_laws_FnCrews]
  cases m_laws_r8Long code more with
  | true => rfl
  | false =>
    simp only [Bool.cond_false]
    have hA := hm.2.1
    have hfl : ∀ kk : (List Int) × Int → Bool, _ := fun kk => LOOP_fori (b := m_laws_FnCrews_b1 code more) (k := kk) (n := ((m_spec_R8Mine code).Airways.length : Int)) (fun i xs => xs ++ [r8fl more i]) (fun rec xs i h0 h1 => by
      simp only [m_laws_FnCrews_b1, h1, decide_true, Bool.cond_true]; rfl) (fun rec xs => by simp [m_laws_FnCrews_b1]) ((((m_spec_R8Mine code).Airways.length : Int) - 0 : Int).toNat + 1) 0 [] (by omega) (by omega) (by omega)
    rw [hfl]
    have ef : fori (fun i xs => xs ++ [r8fl more i]) (((m_spec_R8Mine code).Airways.length : Int) - 0).toNat 0 [] = (irange 0 (m_spec_R8Mine code).Airways.length).map (r8fl more) := by
      rw [fori_map, List.nil_append]; congr 2
    rw [ef]
    have hat : ∀ k : Int, 0 ≤ k → k < (m_spec_R8Mine code).Airways.length → at' ((irange 0 (m_spec_R8Mine code).Airways.length).map (r8fl more)) k = r8fl more k := fun k h0 h1 => at_irange0 h0 (by omega)
    have hin : FlowsIn (m_spec_R8Mine code) ((irange 0 (m_spec_R8Mine code).Airways.length).map (r8fl more)) := ⟨by rw [List.length_map, irange_len], fun y hy => by
      obtain ⟨k, hk, rfl⟩ := List.mem_map.1 hy
      rw [mem_irange] at hk
      have := r8fl_rng hp2.2 (k := k) (by omega)
      omega⟩
    have habs : ∀ k : Int, 0 ≤ k → k < (m_spec_R8Mine code).Airways.length → m_impl_abs (at' ((irange 0 (m_spec_R8Mine code).Airways.length).map (r8fl more)) k) = at' ((irange 0 (m_spec_R8Mine code).Airways.length).map (r8fl more)) k := fun k h0 h1 => by
      have hr := r8fl_rng hp2.2 (k := k) (by omega)
      rw [hat k h0 h1]
      unfold m_impl_abs
      rw [wr64 (by omega), if_neg (by omega)]
    have hval : m_impl_ValidJobs (m_spec_R8Mine code) (m_spec_R8Jobs more (m_spec_R8Mine code)) = true := by
      rw [jobs_eq, hjobs.1, ← mine_eq, hmv]; rfl
    have hc : m_impl_jobsCode (m_spec_R8Mine code) ((irange 0 (m_spec_R8Mine code).Airways.length).map (r8fl more)) (m_spec_R8Jobs more (m_spec_R8Mine code)) = 0 := by
      simp only [m_impl_jobsCode, hval, hasFlows_iff.2 hin, Bool.not_true, Bool.cond_false]
    have hlen : ((irange 0 (m_spec_R8Mine code).Airways.length).map (r8fl more)).length = (m_spec_R8Mine code).Airways.length := by rw [List.length_map, irange_len]
    generalize hgf : (irange 0 (m_spec_R8Mine code).Airways.length).map (r8fl more) = flows at hin habs hc hlen ⊢
    have hj := (jobsCode_imp hc).2.2
    have hnd := need_tot hj
    have hno := need_ok hjobs.1
    have h8 := hjobs.2
    have hmost := most_law hc h8
    have hfew := fewest_law hc (B := 3000) (by omega)
    have hmf : m_spec_ShiftFits (m_spec_R8Mine code) flows (m_spec_R8Jobs more (m_spec_R8Mine code)) (m_impl_MostJobs (m_spec_R8Mine code) flows (m_spec_R8Jobs more (m_spec_R8Mine code)) 3000).1 = true := by
      rw [← ShiftFits_eq]; exact fitsI hc hmost.2.1.up hmost.2.1.fit
    have han : m_impl_AirNeeds (m_spec_R8Mine code) (m_spec_R8Jobs more (m_spec_R8Mine code)) = (m_impl_Mine_airNeeds (m_spec_R8Mine code) (m_spec_R8Jobs more (m_spec_R8Mine code)), 0) := by
      simp only [m_impl_AirNeeds, hval, Bool.not_true, Bool.cond_false]
    have hsc : (m_impl_ShortAirways (m_spec_R8Mine code) flows (m_spec_R8Jobs more (m_spec_R8Mine code))).2 = 0 := by rw [short_is hc]
    have hxs := hmost.2.2
    have hml : (m_impl_MostJobs (m_spec_R8Mine code) flows (m_spec_R8Jobs more (m_spec_R8Mine code)) 3000).1.length ≤ 8 := by
      have := up_len hmost.2.1.up (by omega); omega
    have hnlen := needs_len (m_spec_R8Mine code) (m_spec_R8Jobs more (m_spec_R8Mine code))
    have hhas := fun k h0 h1 => short_has hc (k := k) ⟨h0, h1⟩ (habs k h0 h1)
    have hsn := short_nil hc
    have hall := fun h => most_all hmost.2.1 hxs h
    have hpart := fun n L hn hL hmin => shifts_part hc h8 (L := L) (M := (m_impl_MostJobs (m_spec_R8Mine code) flows (m_spec_R8Jobs more (m_spec_R8Mine code)) 3000).1) (n := n) hin hn hL hmin hxs hml
    have e0 : ((0 : Int) != 0) = false := by decide
    have hnr : ∀ k : Int, 0 ≤ k → k < (m_spec_R8Mine code).Airways.length → 0 ≤ at' (m_impl_Mine_airNeeds (m_spec_R8Mine code) (m_spec_R8Jobs more (m_spec_R8Mine code))) k ∧ at' (m_impl_Mine_airNeeds (m_spec_R8Mine code) (m_spec_R8Jobs more (m_spec_R8Mine code))) k ≤ 27200 := fun k h0 h1 => by
      rw [needs_at hj.2 (by omega) k h0 h1]
      have := SN_rng (k := k) hj.2
      omega
    have hnr2 : ∀ i : Int, 0 ≤ i → i < (m_spec_R8Jobs more (m_spec_R8Mine code)).length → 0 ≤ needG (m_spec_R8Jobs more (m_spec_R8Mine code)) i ∧ needG (m_spec_R8Jobs more (m_spec_R8Mine code)) i ≤ 3400 := fun i h0 h1 => need_rng (at_all hj.2 ⟨h0, h1⟩)
    generalize hML : m_impl_MostJobs (m_spec_R8Mine code) flows (m_spec_R8Jobs more (m_spec_R8Mine code)) 3000 = ML at hmost hmf hxs hml hall hpart ⊢
    refine bif_ff' ?_ ?_
    · rw [hmost.1, hmf, han, hsc]
      have e1 : (((m_impl_Mine_airNeeds (m_spec_R8Mine code) (m_spec_R8Jobs more (m_spec_R8Mine code))).length : Int) != (flows.length : Int)) = false := by rw [hnlen, hlen]; simp
      have e2 : ((((m_impl_FewestShifts (m_spec_R8Mine code) flows (m_spec_R8Jobs more (m_spec_R8Mine code)) 3000).2.2 != 0) && ((m_impl_FewestShifts (m_spec_R8Mine code) flows (m_spec_R8Jobs more (m_spec_R8Mine code)) 3000).2.2 != 3)) && ((m_impl_FewestShifts (m_spec_R8Mine code) flows (m_spec_R8Jobs more (m_spec_R8Mine code)) 3000).2.2 != 5)) = false := by
        rcases hfew.1 with h | h | h <;> rw [h] <;> decide
      rw [e2]
      simp only [e1, e0, Bool.not_true, Bool.or_self]
    · have hneedsum := tot_rng (g := needG (m_spec_R8Jobs more (m_spec_R8Mine code))) (c := 3400) (A := irange 0 (m_spec_R8Jobs more (m_spec_R8Mine code)).length) (fun i hi => by rw [mem_irange] at hi; exact hnr2 i hi.1 (by omega))
      rw [irange_len] at hneedsum
      rw [sum_loop (g := needG (m_spec_R8Jobs more (m_spec_R8Mine code))) (n := (m_spec_R8Jobs more (m_spec_R8Mine code)).length) (c := 3400) (sg := 1) (a0 := 0) hnr2 (.inl rfl) (by omega) (by omega) (fun rec a i h0 h1 hab => by
        have hr := hnr2 i h0 h1
        simp only [m_laws_FnCrews_b2, h1, decide_true, Bool.cond_true, hno i h0 h1, e0, Bool.cond_false]
        rw [wr64 (by simp only [needG] at hr; omega), Int.one_mul]; rfl) (fun rec a => by simp [m_laws_FnCrews_b2])]
      dsimp only
      rw [han]
      dsimp only
      rw [hnlen]
      rw [sum_loop (g := fun k => at' (m_impl_Mine_airNeeds (m_spec_R8Mine code) (m_spec_R8Jobs more (m_spec_R8Mine code))) k) (n := (m_spec_R8Mine code).Airways.length) (c := 27200) (sg := -1) hnr (.inr rfl) (by omega) (by omega) (fun rec a k h0 h1 hab => by
        have hr := hnr k h0 h1
        simp only [m_laws_FnCrews_b3, han, hnlen, h1, decide_true, Bool.cond_true, hhas k h0 h1, bne_self_eq_false, Bool.cond_false]
        rw [wr64 (by omega)]
        congr 2; omega) (fun rec a => by simp [m_laws_FnCrews_b3, han, hnlen])]
      dsimp only
      rw [hnd]
      refine bif_ff' ?_ ?_
      · have e1 : ((0 + 1 * tot (needG (m_spec_R8Jobs more (m_spec_R8Mine code))) (irange 0 (m_spec_R8Jobs more (m_spec_R8Mine code)).length) + -1 * tot (needG (m_spec_R8Jobs more (m_spec_R8Mine code))) (irange 0 (m_spec_R8Jobs more (m_spec_R8Mine code)).length)) != 0) = false := by simp; omega
        rw [e1, Bool.false_or]
        cases hs : (((m_impl_ShortAirways (m_spec_R8Mine code) flows (m_spec_R8Jobs more (m_spec_R8Mine code))).1.length : Int) == 0) with
        | false => rfl
        | true =>
          have := hall (hsn.1 hs)
          simp; omega
      · generalize hFS : m_impl_FewestShifts (m_spec_R8Mine code) flows (m_spec_R8Jobs more (m_spec_R8Mine code)) 3000 = FS at hfew ⊢
        cases hz : (FS.2.2 != 0) with
        | true => rfl
        | false =>
          have hz' : FS.2.2 = 0 := by simpa using hz
          obtain ⟨hn0, hC, hmin⟩ := hfew.2 hz'
          obtain ⟨s1, s2, s3⟩ := shifts_law hin hn0 hC hmin
          simp only [Bool.cond_false]
          refine bif_ff' (hpart _ _ hn0 hC hmin) ?_
          obtain ⟨nn, hnn⟩ : ∃ nn : Nat, FS.2.1 = (nn : Int) := ⟨FS.2.1.toNat, by omega⟩
          rw [hnn] at s1 s3 ⊢
          have hup : ∀ s, Up 0 (m_spec_R8Jobs more (m_spec_R8Mine code)).length (idxS FS.1 s) := fun s => by rw [← s2]; exact idx_up
          have hpr : ∀ s : Int, 0 ≤ s → s < nn → 0 ≤ tot (ppl (m_spec_R8Jobs more (m_spec_R8Mine code))) (idxS FS.1 s) ∧ tot (ppl (m_spec_R8Jobs more (m_spec_R8Mine code))) (idxS FS.1 s) ≤ 320 := fun s _ _ => by
            have h1 := tot_ppl hj (hup s)
            have h2 := up_len (hup s) (by omega)
            omega
          have hpr2 : ∀ i : Int, 0 ≤ i → i < (m_spec_R8Jobs more (m_spec_R8Mine code)).length → 0 ≤ ppl (m_spec_R8Jobs more (m_spec_R8Mine code)) i ∧ ppl (m_spec_R8Jobs more (m_spec_R8Mine code)) i ≤ 40 := fun i h0 h1 => by
            have := at_all hj.2 (i := i) ⟨h0, h1⟩; simp only [ppl]; omega
          have htb := tot_rng (g := fun s => tot (ppl (m_spec_R8Jobs more (m_spec_R8Mine code))) (idxS FS.1 s)) (c := 320) (A := irange 0 nn) (fun s hs => by rw [mem_irange] at hs; exact hpr s hs.1 (by omega))
          rw [irange_len] at htb
          rw [sum_loop (g := fun s => tot (ppl (m_spec_R8Jobs more (m_spec_R8Mine code))) (idxS FS.1 s)) (n := nn) (c := 320) (sg := 1) (a0 := 0) hpr (.inl rfl) (by omega) (by omega) (fun rec a s h0 h1 hab => by
            have hr := hpr s h0 h1
            have hne := shift_some s1 h0 h1
            have hne' : (((idxS FS.1 s).length : Int) == 0) = false := beq_eq_false_iff_ne.2 (by omega)
            simp only [m_laws_FnCrews_b4, hFS, hnn, h1, decide_true, Bool.cond_true]
            rw [idx_loop (shifts := FS.1) (s := s) (fun rec x => by simp only [m_laws_FnCrews_b5, hFS])]
            simp only [hne', fitsI hc (hup s) (s1.fit s), people_in hc (hup s), Bool.not_true, Bool.or_self, e0, Bool.cond_false]
            rw [wr64 (by omega), Int.one_mul]) (fun rec a => by simp [m_laws_FnCrews_b4, hFS, hnn])]
          dsimp only
          rw [sum_loop (g := ppl (m_spec_R8Jobs more (m_spec_R8Mine code))) (n := (m_spec_R8Jobs more (m_spec_R8Mine code)).length) (c := 40) (sg := -1) hpr2 (.inr rfl) (by omega) (by omega) (fun rec a i h0 h1 hab => by
            have hr := hpr2 i h0 h1
            simp only [m_laws_FnCrews_b6, h1, decide_true, Bool.cond_true]
            simp only [ppl] at hr ⊢
            rw [wr64 (by omega)]
            congr 2; omega) (fun rec a => by simp [m_laws_FnCrews_b6])]
          dsimp only
          rw [tot_all (g := ppl (m_spec_R8Jobs more (m_spec_R8Mine code))) (fun y hy => s1.ent y hy), s2]
          simp; omega
theorem few_none {m : gMine} {flows : List Int} {list : List gJob} {B : Int} (hB : 1 ≤ B ∧ B ≤ 20000) : (m_impl_FewestShifts m flows list B).2.2 = 0 ∨ ((m_impl_FewestShifts m flows list B).1 = [] ∧ (m_impl_FewestShifts m flows list B).2.1 = 0) := by
  simp only [m_impl_FewestShifts]
  cases h1 : ((m_impl_jobsCode m flows list) == 1) with
  | true => exact .inr ⟨rfl, rfl⟩
  | false =>
    simp only [Bool.cond_false]
    cases m_impl_budgetValid B with
    | false => exact .inr ⟨rfl, rfl⟩
    | true =>
      simp only [Bool.not_true, Bool.cond_false]
      cases h0 : ((m_impl_jobsCode m flows list) != 0) with
      | true => exact .inr ⟨rfl, rfl⟩
      | false =>
        have hc : m_impl_jobsCode m flows list = 0 := by simpa using h0
        have hj := (jobsCode_imp hc).2.2
        simp only [Bool.cond_false]
        cases hcf : m_slices_ContainsFunc_impl_Job list (fun (a0 : gJob) => m_impl_FewestShifts_1 a0 m flows) with
        | true => exact .inr ⟨rfl, rfl⟩
        | false =>
          simp only [Bool.cond_false]
          have hs := cont_imp hcf
          refine LOOP_post (b := m_impl_FewestShifts_b1 m flows list B) (fun (x : Int × (List Int) × Int) => x.2.1 = [] ∧ (0 ≤ x.1 ∧ x.1 ≤ B) ∧ 0 ≤ x.2.2) (fun x => (2 * x.1 + (if x.2.2 = 0 then 1 else 0)).toNat)
            (fun _ (r : (List Int) × Int × Int) => r.2.2 = 0 ∨ (r.1 = [] ∧ r.2.1 = 0)) (fun rec x hI ih => ?_) _ _ ⟨rfl, ⟨by simp only; omega, by simp⟩, by simp⟩ (by simp only [if_true]; omega)
          obtain ⟨b, sh, n⟩ := x
          obtain ⟨e, ⟨hb0, hb1⟩, hn0⟩ := hI
          simp only at e hb0 hb1 hn0
          subst e
          simp only [m_impl_FewestShifts_b1]
          have r1 := fun hr => round_sh (n := n) hj ⟨hb0, by omega⟩ hn0 hs hr
          have r2 := fun hr => round_bd (n := n) hj ⟨hb0, by omega⟩ hn0 hs hr
          have r3 := fun hr h0 => round_mu (n := n) hj ⟨hb0, by omega⟩ hn0 hs hr h0
          generalize m_impl_shiftSearch_extend (gshiftSearch.mk m flows list b []) n 0 = q at r1 r2 r3 ⊢
          cases hq : q.1 with
          | true => exact .inl rfl
          | false =>
            simp only [Bool.cond_false]
            by_cases hov : q.2.budget < 0
            · simp only [hov, decide_true, Bool.cond_true]; exact .inr ⟨trivial, trivial⟩
            · simp only [hov, decide_false, Bool.cond_false]
              have hbd := (r2 hq).1
              exact ih _ ⟨r1 hq, ⟨by simp only; omega, by simp only; omega⟩, by simp only; omega⟩ (r3 hq (by omega))
theorem few_bd {m : gMine} {flows : List Int} {list : List gJob} (h8 : list.length ≤ 8) : (m_impl_FewestShifts m flows list 3000).1.length ≤ 8 ∧ (m_impl_FewestShifts m flows list 3000).2.1 ≤ 8 := by
  rcases few_none (m := m) (flows := flows) (list := list) (B := 3000) (by omega) with h | ⟨h1, h2⟩
  · by_cases hc : m_impl_jobsCode m flows list = 0
    · have hf := (fewest_law hc (B := 3000) (by omega)).2 h
      have := shifts_law (jobsCode_imp hc).2.1 hf.1 hf.2.1 hf.2.2
      omega
    · exfalso
      revert h
      simp only [m_impl_FewestShifts]
      cases h1 : ((m_impl_jobsCode m flows list) == 1) with
      | true => simp only [Bool.cond_true]; exact hc
      | false =>
        simp only [Bool.cond_false]
        cases m_impl_budgetValid 3000 with
        | false => intro h; simp at h
        | true =>
          have : ((m_impl_jobsCode m flows list) != 0) = true := by simpa using hc
          simp only [Bool.not_true, Bool.cond_false, this, Bool.cond_true]; exact hc
  · rw [h1, h2]; simp
theorem airneeds_len {m : gMine} {list : List gJob} : (m_impl_AirNeeds m list).1.length ≤ m.Airways.length := by
  simp only [m_impl_AirNeeds]
  cases m_impl_ValidJobs m list with
  | false => simp
  | true => simp only [Bool.not_true, Bool.cond_false]; rw [needs_len]; exact Nat.le_refl _
theorem valJobs_in {m : gMine} {list : List gJob} (h : m_impl_ValidJobs m list = true) : JobsIn m list := by
  rw [jobs_eq, Bool.and_eq_true] at h
  exact l23List_imp h.2
theorem valJobs_m {m : gMine} {list : List gJob} (h : m_impl_ValidJobs m list = true) : MineIn m := by
  rw [jobs_eq, Bool.and_eq_true] at h
  exact l04Ok_imp h.1

end Go.Proofs.Ytchjibndocnnhaa
