/-
  PLAIN LAWS about the models: no program in sight. Conditions: as each theorem states them.
-/
import Derived.Test.YtchjibndocnnhaaCrewsPlain22
set_option linter.unusedVariables false
set_option linter.unusedSimpArgs false
set_option linter.unusedSectionVars false
set_option linter.unnecessarySimpa false
namespace Go.Proofs.Ytchjibndocnnhaa
open Go Go.RowKit Go.Proofs Go.Proofs.Ytchjibndocnnhaa.E
/-! ## FnCrews: what both searches give -/
theorem fewest_law {m : gMine} {flows : List Int} {list : List gJob} {B : Int} (hc : m_impl_jobsCode m flows list = 0) (hB : 1 ≤ B ∧ B ≤ 20000) :
    ((m_impl_FewestShifts m flows list B).2.2 = 0 ∨ (m_impl_FewestShifts m flows list B).2.2 = 3 ∨ (m_impl_FewestShifts m flows list B).2.2 = 5) ∧
    ((m_impl_FewestShifts m flows list B).2.2 = 0 → 0 ≤ (m_impl_FewestShifts m flows list B).2.1 ∧ Comp m flows list (m_impl_FewestShifts m flows list B).2.1 [] 0 (m_impl_FewestShifts m flows list B).1 ∧ ∀ n', 0 ≤ n' → n' < (m_impl_FewestShifts m flows list B).2.1 → ∀ L, ¬ Comp m flows list n' [] 0 L) := by
  have hj := (jobsCode_imp hc).2.2
  have hbv : m_impl_budgetValid B = true := by simp only [m_impl_budgetValid, m_impl_within, Bool.and_eq_true, decide_eq_true_eq]; omega
  have e1 : ((0 : Int) == 1) = false := by decide
  have e0 : ((0 : Int) != 0) = false := by decide
  simp only [m_impl_FewestShifts, hc, hbv, e1, e0, Bool.not_true, Bool.cond_false]
  cases hcf : m_slices_ContainsFunc_impl_Job list (fun (a0 : gJob) => m_impl_FewestShifts_1 a0 m flows) with
  | true => simp only [Bool.cond_true]; exact ⟨.inr (.inl (by first | rfl | trivial)), fun h => absurd h (by decide)⟩
  | false =>
    simp only [Bool.cond_false]
    have hs := cont_imp hcf
    refine LOOP_post (b := m_impl_FewestShifts_b1 m flows list B) (fun (x : Int × (List Int) × Int) => x.2.1 = [] ∧ (0 ≤ x.1 ∧ x.1 ≤ B) ∧ 0 ≤ x.2.2 ∧ ∀ n', 0 ≤ n' → n' < x.2.2 → ∀ L, ¬ Comp m flows list n' [] 0 L) (fun x => (2 * x.1 + (if x.2.2 = 0 then 1 else 0)).toNat)
      (fun _ (r : (List Int) × Int × Int) => (r.2.2 = 0 ∨ r.2.2 = 3 ∨ r.2.2 = 5) ∧ (r.2.2 = 0 → 0 ≤ r.2.1 ∧ Comp m flows list r.2.1 [] 0 r.1 ∧ ∀ n', 0 ≤ n' → n' < r.2.1 → ∀ L, ¬ Comp m flows list n' [] 0 L)) (fun rec x hI ih => ?_) _ _ ⟨rfl, ⟨by simp only; omega, by simp⟩, by simp, fun n' h1 h2 => by simp only at h2; omega⟩ (by simp only [if_true]; omega)
    obtain ⟨b, sh, n⟩ := x
    obtain ⟨e, ⟨hb0, hb1⟩, hn0, hno⟩ := hI
    simp only at e hb0 hb1 hn0 hno
    subst e
    simp only [m_impl_FewestShifts_b1]
    have hel := extend_law hj (((list.length : Int) - ([] : List Int).length).toNat + 1) (gshiftSearch.mk m flows list b []) n 0 rfl rfl rfl (by simp) (by omega) (by simp) (by simp only; omega) (by simp only; omega) (by simp only; omega)
    have hel' : ((m_impl_shiftSearch_extend (gshiftSearch.mk m flows list b []) n 0).1 = true → ∃ L, Comp m flows list n [] 0 L ∧ (m_impl_shiftSearch_extend (gshiftSearch.mk m flows list b []) n 0).2.shifts = [] ++ L) ∧ ((m_impl_shiftSearch_extend (gshiftSearch.mk m flows list b []) n 0).1 = false → 0 ≤ (m_impl_shiftSearch_extend (gshiftSearch.mk m flows list b []) n 0).2.budget → ∀ L, ¬ Comp m flows list n [] 0 L) := hel
    have r1 := fun hr => round_sh (n := n) hj ⟨hb0, by omega⟩ hn0 hs hr
    have r2 := fun hr => round_bd (n := n) hj ⟨hb0, by omega⟩ hn0 hs hr
    have r3 := fun hr h0 => round_mu (n := n) hj ⟨hb0, by omega⟩ hn0 hs hr h0
    clear hel
    generalize m_impl_shiftSearch_extend (gshiftSearch.mk m flows list b []) n 0 = q at hel' r1 r2 r3 ⊢
    cases hq : q.1 with
    | true =>
      simp only [Bool.cond_true]
      obtain ⟨L, hL, hsL⟩ := hel'.1 hq
      rw [hsL, List.nil_append]
      exact ⟨.inl (by first | rfl | trivial), fun _ => ⟨hn0, hL, hno⟩⟩
    | false =>
      simp only [Bool.cond_false]
      by_cases hov : q.2.budget < 0
      · simp only [hov, decide_true, Bool.cond_true]
        exact ⟨.inr (.inr (by first | rfl | trivial)), fun h => absurd h (by decide)⟩
      · simp only [hov, decide_false, Bool.cond_false]
        have hbd := (r2 hq).1
        refine ih _ ⟨r1 hq, ⟨by simp only; omega, by simp only; omega⟩, by simp only; omega, fun n' h1 h2 L hL => ?_⟩ (r3 hq (by omega))
        simp only at h2
        by_cases en : n' = n
        · subst en; exact hel'.2 hq (by omega) L hL
        · exact hno n' h1 (by omega) L hL
/-- the shifts that are found: all in use, each fits, and no more of them than jobs -/
theorem shifts_law {m : gMine} {flows : List Int} {list : List gJob} {n : Int} {L : List Int} (hf : FlowsIn m flows) (hn : 0 ≤ n) (hL : Comp m flows list n [] 0 L) (hmin : ∀ n', 0 ≤ n' → n' < n → ∀ L, ¬ Comp m flows list n' [] 0 L) :
    CI m flows list L n ∧ L.length = list.length ∧ n ≤ list.length := by
  obtain ⟨U, g1, g2, g3, g4, g5⟩ := comp_law L [] 0 (CI.nil hf) hL
  have : U = n := by
    rcases Int.lt_trichotomy U n with h | h | h
    · exact absurd g4 (hmin U g1 h L)
    · exact h
    · have := g2 hn; omega
  subst this
  rw [List.nil_append] at g3 g5
  exact ⟨g3, g5, by have := g3.ub; omega⟩
/-- all at once: one shift -/
theorem irange_up : ∀ (n : Nat), Up 0 n (irange 0 n)
  | 0 => Up.nil
  | n + 1 => by
    rw [irange_succ]
    have := (irange_up n).snoc (hi := ((n + 1 : Nat) : Int)) (i := (n : Int)) (by omega) (by omega)
    rwa [Int.zero_add]
theorem idx_up {σ : List Int} {s : Int} : Up 0 σ.length (idxS σ s) := by
  refine ⟨?_, fun y hy => idxS_rng y hy⟩
  simp only [idxS, List.map_id']
  exact List.Pairwise.filter _ (irange_up σ.length).1
theorem rep_idx (n : Nat) : idxS (List.replicate n (0 : Int)) 0 = irange 0 n := by
  simp only [idxS, List.length_replicate, List.map_id']
  rw [List.filter_eq_self]
  intro i hi
  rw [mem_irange] at hi
  have : at' (List.replicate n (0 : Int)) i = 0 := by
    have := at_lt (xs := List.replicate n (0 : Int)) (j := i.toNat) (by rw [List.length_replicate]; omega)
    rw [Int.toNat_of_nonneg hi.1] at this
    rw [this]; simp
  simp [this]
theorem irange_add (j : Nat) : ∀ (d : Nat), irange 0 (j + d) = irange 0 j ++ irange (j : Int) d
  | 0 => by simp [irange]
  | d + 1 => by
    rw [show j + (d + 1) = (j + d) + 1 by omega, irange_succ, irange_succ, irange_add j d, List.append_assoc]
    congr 2
    simp
theorem FitW.pre {m : gMine} {flows : List Int} {list : List gJob} (hj : JobsIn m list) (h : FitW m flows list (irange 0 list.length)) {j : Nat} (hl : j ≤ list.length) : FitW m flows list (irange 0 j) := by
  have e : irange 0 list.length = irange 0 j ++ irange (j : Int) (list.length - j) := by rw [← irange_add]; congr 1; omega
  rw [e] at h
  exact FitW.left hj (fun y hy => by rw [mem_irange] at hy; omega) h
theorem comp_one {m : gMine} {flows : List Int} {list : List gJob} (hj : JobsIn m list) (h : FitW m flows list (irange 0 list.length)) : ∀ (d j : Nat) (u : Int), j + d = list.length → (u = 0 ∨ u = 1) → Comp m flows list 1 (List.replicate j (0 : Int)) u (List.replicate d (0 : Int))
  | 0, j, u, e, _ => by show (List.replicate j (0 : Int)).length = list.length; rw [List.length_replicate]; omega
  | d + 1, j, u, e, hu => by
    refine ⟨by rw [List.length_replicate]; omega, ⟨by omega, ?_⟩, ?_⟩
    · rw [rep_idx, List.length_replicate]
      have := FitW.pre hj h (j := j + 1) (by omega)
      rw [irange_succ, Int.zero_add] at this
      exact this
    · have e1 : List.replicate j (0 : Int) ++ ([0] : List Int) = List.replicate (j + 1) (0 : Int) := List.replicate_succ'.symm
      have e2 : nxt u 0 = 1 := by unfold nxt; split <;> omega
      rw [e1, e2]
      exact comp_one hj h d (j + 1) 1 (by omega) (.inr rfl)
theorem list_map_irange (list : List gJob) : (irange 0 list.length).map (at' list) = list := (list_irange list).symm
theorem fit_all {m : gMine} {flows : List Int} {list : List gJob} (hj : JobsIn m list) : FitW m flows list (irange 0 list.length) ↔ ∀ k : Nat, k < m.Airways.length → at' (m_impl_Mine_airNeeds m list) (k : Int) ≤ m_impl_abs (at' flows (k : Int)) := by
  have hn := hj.1
  have e : ∀ k : Nat, k < m.Airways.length → at' (m_impl_Mine_airNeeds m list) (k : Int) = Wt list (k : Int) (irange 0 list.length) := fun k hk => by
    rw [needs_at hj.2 (by omega) (k : Int) (by omega) (by omega)]
    simp only [Wt, list_map_irange]
  exact ⟨fun h k hk => by rw [e k hk]; exact h k hk, fun h k hk => by have := h k hk; rwa [e k hk] at this⟩
/-- one shift is enough where all fit at once -/
theorem one_shift {m : gMine} {flows : List Int} {list : List gJob} {n : Int} {L : List Int} (hf : FlowsIn m flows) (hj : JobsIn m list) (hn : 0 ≤ n) (hL : Comp m flows list n [] 0 L) (hmin : ∀ n', 0 ≤ n' → n' < n → ∀ L, ¬ Comp m flows list n' [] 0 L) : n ≤ 1 ↔ FitW m flows list (irange 0 list.length) := by
  have hl := shifts_law hf hn hL hmin
  constructor
  · intro h1
    have h0 : ∀ y ∈ L, y = 0 := fun y hy => by have := hl.1.ent y hy; omega
    have e : L = List.replicate list.length (0 : Int) := by
      rw [← hl.2.1]
      exact List.eq_replicate_iff.2 ⟨rfl, h0⟩
    have := hl.1.fit 0
    rw [e, rep_idx] at this
    exact this
  · intro h
    rcases Int.lt_or_le 1 n with h1 | h1
    · exact absurd (comp_one hj h list.length 0 0 (by omega) (.inl rfl)) (hmin 1 (by omega) h1 _)
    · exact h1
theorem most_law {m : gMine} {flows : List Int} {list : List gJob} (hc : m_impl_jobsCode m flows list = 0) (hl : list.length ≤ 8) : (m_impl_MostJobs m flows list 3000).2 = 0 ∧ VOk m flows list (m_impl_MostJobs m flows list 3000).1 ∧ ∀ T, Up 0 list.length T → FitW m flows list T → T.length ≤ (m_impl_MostJobs m flows list 3000).1.length := by
  have hi := jobsCode_imp hc
  have hbv : m_impl_budgetValid 3000 = true := by decide
  have e1 : ((0 : Int) == 1) = false := by decide
  have e0 : ((0 : Int) != 0) = false := by decide
  have hpw : pw ((list.length : Int) - 0) ≤ 256 := by
    unfold pw
    have h1 : 2 ^ ((list.length : Int) - 0).toNat ≤ 2 ^ 8 := Nat.pow_le_pow_right (by decide) (by omega)
    have h2 : 2 ^ 8 = 256 := by decide
    omega
  have h := visit_law hi.2.2 (((list.length : Int) - 0).toNat + 1) (gjobSearch.mk m flows list 3000 [] []) 0 rfl rfl rfl Up.nil (FitW.nil hi.2.1) (by omega) (by omega) (by omega) (by simp only; omega) (by simp only; omega)
  have h' : VPost m flows list [] [] 0 3000 (m_impl_jobSearch_visit (gjobSearch.mk m flows list 3000 [] []) 0) := h
  simp only [m_impl_MostJobs, hc, hbv, e1, e0, Bool.not_true, Bool.cond_false]
  have hb := h'.bud
  have hnb : ¬ (m_impl_jobSearch_visit (gjobSearch.mk m flows list 3000 [] []) 0).budget < 0 := by omega
  simp only [hnb, decide_false, Bool.cond_false]
  exact ⟨trivial, h'.ok ⟨Up.nil, FitW.nil hi.2.1⟩, fun T h1 h2 => h'.max T h1 h2⟩
theorem most_all {m : gMine} {flows : List Int} {list : List gJob} {M : List Int} (hM : VOk m flows list M) (hx : ∀ T, Up 0 list.length T → FitW m flows list T → T.length ≤ M.length) (h : FitW m flows list (irange 0 list.length)) : M.length = list.length := by
  have h1 := hx _ (irange_up list.length) h
  rw [irange_len] at h1
  have h2 := up_len hM.up (by omega)
  omega
theorem most_mul {m : gMine} {flows : List Int} {list : List gJob} {M L : List Int} {n : Int} (hx : ∀ T, Up 0 list.length T → FitW m flows list T → T.length ≤ M.length) (hc : CI m flows list L n) (hl : L.length = list.length) : (list.length : Int) ≤ M.length * n := by
  have hub := hc.ub
  have h := tot_all (g := fun _ => 1) (n := n.toNat) (L := L) (fun y hy => by have := hc.ent y hy; omega)
  rw [tot_one, irange_len, hl] at h
  rw [← h]
  have hle : tot (fun s => tot (fun _ => 1) (idxS L s)) (irange 0 n.toNat) ≤ (M.length : Int) * (irange 0 n.toNat).length := tot_le fun s _ => by
    rw [tot_one]
    have := hx _ (by rw [← hl]; exact idx_up) (hc.fit s)
    omega
  rw [irange_len] at hle
  rwa [show ((n.toNat : Nat) : Int) = n by omega] at hle
/-- each shift is in use -/
theorem shift_some {m : gMine} {flows : List Int} {list : List gJob} {L : List Int} {n s : Int} (hc : CI m flows list L n) (h0 : 0 ≤ s) (h1 : s < n) : (idxS L s).length ≠ 0 := fun e => by
  obtain ⟨j, hj, e2⟩ := List.getElem_of_mem (hc.use s h0 h1)
  have hm : (j : Int) ∈ idxS L s := by
    simp only [idxS, List.map_id', List.mem_filter, mem_irange]
    exact ⟨by omega, by rw [at_lt hj, e2]; simp⟩
  rw [List.eq_nil_of_length_eq_zero e] at hm
  exact absurd hm List.not_mem_nil

end Go.Proofs.Ytchjibndocnnhaa
