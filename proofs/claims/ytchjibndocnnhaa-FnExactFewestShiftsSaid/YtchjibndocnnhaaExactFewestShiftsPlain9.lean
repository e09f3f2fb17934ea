/-
  PLAIN LAWS about the models: no program in sight. Conditions: as each theorem states them.
-/
import Derived.Test.YtchjibndocnnhaaExactFewestShiftsPlain8
set_option linter.unusedVariables false
set_option linter.unusedSimpArgs false
set_option linter.unusedSectionVars false
set_option linter.unnecessarySimpa false
namespace Go.Proofs.Ytchjibndocnnhaa
open Go Go.RowKit Go.Proofs Go.Proofs.Ytchjibndocnnhaa.E
/-! ## FewestShifts: both searches go the same way -/
structure SR (s : gshiftSearch) (x : gl23Search) (n u : Int) : Prop where
  m : s.mine = x.m_
  f : s.flows = x.flows
  l : s.list = x.list
  sh : s.shifts = x.shifts
  n : n = x.count
  u : u = usedS x.shifts
  fl : FlowsIn x.m_ x.flows
  j : JobsIn x.m_ x.list
  b : 0 ≤ s.budget ∧ s.budget = x.budget - x.nodes ∧ 0 ≤ x.nodes ∧ x.budget ≤ 20000
  c : 0 ≤ x.count ∧ x.count ≤ 30000
  k : x.shifts.length ≤ x.list.length
  v : 0 ≤ usedS x.shifts ∧ usedS x.shifts ≤ x.count
/-- what a search ends with: the same for both, or both over the budget -/
def SE (x : gl23Search) (r : Bool × gshiftSearch) (q : Bool × gl23Search) : Prop :=
  (r.1 = q.1 ∧ r.2.shifts = q.2.shifts ∧ r.2.budget = x.budget - q.2.nodes ∧ 0 ≤ r.2.budget ∧ x.nodes ≤ q.2.nodes) ∨ (r.1 = false ∧ r.2.budget < 0 ∧ q.1 = true ∧ x.budget < q.2.nodes)
theorem place_rel : ∀ (fuel : Nat) (s : gshiftSearch) (x : gl23Search) (n u : Int), SR s x n u → ((x.list.length : Int) - x.shifts.length).toNat < fuel → SE x (m_impl_shiftSearch_extend_n fuel s n u) (m_spec_l23Search_place_n fuel x)
  | 0, _, _, _, _, _, h => by omega
  | fuel + 1, s, x, n, u, hR, hfu => by
    have hb := hR.b
    have hc := hR.c
    have hv := hR.v
    have hk := hR.k
    have hj := hR.j.1
    simp only [m_impl_shiftSearch_extend_n, m_impl_shiftSearch_extend_body, m_spec_l23Search_place_n, m_spec_l23Search_place_body]
    rw [hR.sh, hR.l]
    by_cases he : (x.shifts.length : Int) = (x.list.length : Int)
    · have : ((x.shifts.length : Int) == (x.list.length : Int)) = true := beq_iff_eq.2 he
      rw [this]
      exact .inl ⟨rfl, hR.sh, hb.2.1, hb.1, Int.le_refl _⟩
    · have : ((x.shifts.length : Int) == (x.list.length : Int)) = false := beq_eq_false_iff_ne.2 he
      rw [this]
      simp only [Bool.cond_false]
      rw [used_loop (shifts := x.shifts) (fun rec y => rfl), wr64 (n := u + 1) (by rw [hR.u]; omega)]
      obtain ⟨E, hE⟩ : ∃ E, (if (u + 1) < n then (u + 1) else n) = E := ⟨_, rfl⟩
      have hE' : (if (IntKind.wrap .i64 (u + 1)) < n then (IntKind.wrap .i64 (u + 1)) else n) = E := by rw [wr64 (n := u + 1) (by rw [hR.u]; omega)]; exact hE
      have hEi : ∀ i : Int, i < E ↔ (i ≤ usedS x.shifts ∧ i < x.count) := fun i => by
        rw [← hE, hR.u, hR.n]; split <;> omega
      rw [hE, show s.budget = x.budget - x.nodes from hb.2.1]
      have h := LOOP_post (b := m_spec_l23Search_place_b2 (m_spec_l23Search_place_n fuel) x (usedS x.shifts, (x.shifts.length : Int))) (k := fun (x2 : Int × (List Int) × Int) => (false, gl23Search.mk x.m_ x.flows x.list x.some_ x.best x2.2.1 x.count x2.2.2 x.budget))
        (fun (y : Int × (List Int) × Int) => y.2.1 = x.shifts ∧ 0 ≤ y.1 ∧ x.nodes ≤ y.2.2 ∧ y.2.2 ≤ x.budget) (fun y => (x.count - y.1).toNat)
        (fun y q => ∀ f, (E - y.1).toNat < f → SE x (LOOP (m_impl_shiftSearch_extend_b1 (m_impl_shiftSearch_extend_n fuel) s n u) (fun (x1 : Int × Int × (List Int)) => (false, gshiftSearch.mk s.mine s.flows x.list x1.2.1 x1.2.2)) f (y.1, x.budget - y.2.2, x.shifts)) q) (fun rec y hI ih => ?_) ((x.count - 0 : Int).toNat + 1) (0, x.shifts, x.nodes) ⟨rfl, by simp, by simp, by simp only; omega⟩ (by simp)
      · exact h ((E - 0 : Int).toNat + 1) (by simp)
      · obtain ⟨i, sh, nd⟩ := y
        obtain ⟨e, hi0, hn1, hn2⟩ := hI
        simp only at e hi0 hn1 hn2
        subst e
        intro f hf
        have hf' : (E - i).toNat < f := hf
        obtain ⟨f, rfl⟩ : ∃ f', f = f' + 1 := ⟨f - 1, by omega⟩
        rw [LOOP, m_impl_shiftSearch_extend_b1, m_spec_l23Search_place_b2]
        simp only [hE']
        by_cases hi : i < E
        · have hi2 := (hEi i).1 hi
          simp only [hi, hi2.1, hi2.2, decide_true, Bool.and_true, Bool.cond_true]
          rw [impl_jobs (list := s.list) (shifts := x.shifts) (s := i) (fun rec x => rfl)]
          rw [hR.l, hR.m, hR.f]
          have hfw := fits_with hR.fl hR.j (gl23Search.mk x.m_ x.flows x.list x.some_ x.best x.shifts x.count nd x.budget) i (by simp only; omega)
          simp only at hfw
          rw [hfw, hR.sh]
          simp only
          have again : ∀ nd', x.nodes ≤ nd' → nd' ≤ x.budget → SE x (LOOP (m_impl_shiftSearch_extend_b1 (m_impl_shiftSearch_extend_n fuel) s n u) (fun (x1 : Int × Int × (List Int)) => (false, gshiftSearch.mk x.m_ x.flows x.list x1.2.1 x1.2.2)) f (i + 1, x.budget - nd', x.shifts)) (rec (i + 1, x.shifts, nd')) := fun nd' h1 h2 => by
            have := ih (i + 1, x.shifts, nd') ⟨rfl, by simp only; omega, h1, h2⟩ (by simp only; omega) f (by simp only; omega)
            rw [hR.m, hR.f] at this
            exact this
          cases m_impl_Mine_fitJobs x.m_ x.flows (([at' x.list (x.shifts.length : Int)] : List gJob) ++ (idxS x.shifts i).map (at' x.list)) with
          | false => exact again nd hn1 hn2
          | true =>
            simp only [Bool.not_true, Bool.cond_false]
            rw [wr64 (n := x.budget - nd - 1) (by omega), wr64 (n := nd + 1) (by omega)]
            by_cases hov : x.budget - nd - 1 < 0
            · have : x.budget < nd + 1 := by omega
              simp only [hov, this, decide_true, Bool.cond_true]
              exact .inr ⟨rfl, hov, rfl, this⟩
            · have : ¬ x.budget < nd + 1 := by omega
              simp only [hov, this, decide_false, Bool.cond_false]
              have hu : (if u < (i + 1) then (i + 1) else u) = usedS (x.shifts ++ ([i] : List Int)) := by
                rw [usedS_app, wr64 (n := i + 1) (by omega), hR.u, m_spec_l00Max]
                by_cases h : usedS x.shifts < i + 1
                · have h2 : ¬ i + 1 < usedS x.shifts := by omega
                  simp [h, h2]
                · by_cases h2 : i + 1 < usedS x.shifts
                  · simp [h, h2]
                  · have : i + 1 = usedS x.shifts := by omega
                    simp [this]
              have hu2 : 0 ≤ usedS (x.shifts ++ ([i] : List Int)) ∧ usedS (x.shifts ++ ([i] : List Int)) ≤ x.count := by
                rw [← hu, hR.u]; split <;> omega
              have hrec := place_rel fuel (gshiftSearch.mk x.m_ x.flows x.list (x.budget - nd - 1) (x.shifts ++ ([i] : List Int))) (gl23Search.mk x.m_ x.flows x.list x.some_ x.best (x.shifts ++ ([i] : List Int)) x.count (nd + 1) x.budget) n (if u < (i + 1) then (i + 1) else u)
                ⟨rfl, rfl, rfl, rfl, hR.n, hu, hR.fl, hR.j, ⟨by simp only; omega, by simp only; omega, by simp only; omega, hb.2.2.2⟩, hc, by simp only [List.length_append, List.length_cons, List.length_nil]; omega, hu2⟩ (by simp only [List.length_append, List.length_cons, List.length_nil]; omega)
              have hpi := post_impl_shiftSearch_extend fuel (gshiftSearch.mk x.m_ x.flows x.list (x.budget - nd - 1) (x.shifts ++ ([i] : List Int))) n (if u < (i + 1) then (i + 1) else u) (by simp only [List.length_append, List.length_cons, List.length_nil]; omega) (by simp only [List.length_append, List.length_cons, List.length_nil]; omega)
              generalize (m_impl_shiftSearch_extend_n fuel (gshiftSearch.mk x.m_ x.flows x.list (x.budget - nd - 1) (x.shifts ++ ([i] : List Int))) n (if u < (i + 1) then (i + 1) else u)) = r at hrec hpi ⊢
              generalize (m_spec_l23Search_place_n fuel (gl23Search.mk x.m_ x.flows x.list x.some_ x.best (x.shifts ++ ([i] : List Int)) x.count (nd + 1) x.budget)) = q at hrec ⊢
              rcases hrec with ⟨h1, h2, h3, h4, h5⟩ | ⟨h1, h2, h3, h4⟩
              · simp only at h3 h5
                rw [h1]
                cases hq : q.1 with
                | true =>
                  simp only [Bool.cond_true]
                  exact .inl ⟨rfl, h2, h3, h4, by simp only; omega⟩
                | false =>
                  simp only [Bool.cond_false]
                  have hnb : ¬ r.2.budget < 0 := by omega
                  simp only [hnb, decide_false, Bool.cond_false]
                  have hsh := hpi (h1.trans hq)
                  simp only at hsh
                  rw [← h2, hsh, pre_app, app_cut (by omega), h3]
                  exact again _ (by omega) (by omega)
              · simp only at h4
                have hsh := hpi h1
                simp only at hsh
                rw [h1, h3]
                simp only [Bool.cond_false, Bool.cond_true, h2, decide_true]
                exact .inr ⟨rfl, h2, rfl, h4⟩
        · have hi2 : ¬ (i ≤ usedS x.shifts ∧ i < x.count) := fun h => hi ((hEi i).2 h)
          have : ((decide (i ≤ usedS x.shifts)) && (decide (i < x.count))) = false := by rw [Bool.eq_false_iff]; simpa using hi2
          rw [this]
          simp only [hi, decide_false, Bool.cond_false]
          exact .inl ⟨rfl, rfl, rfl, by simp only; omega, hn1⟩
theorem single_iff {m : gMine} {flows : List Int} (hf : FlowsIn m flows) (list : List gJob) (i : Int) : m_spec_l23Fits m flows list ([i] : List Int) = m_impl_Mine_fitJobs m flows ([at' list i] : List gJob) := by
  rw [fits_map hf]; rfl
/-- either some job does not fit alone, or all do -/
theorem singles {m : gMine} {flows : List Int} {list : List gJob} (hf : FlowsIn m flows) {ρ : Type} (v : ρ) {b : (Int → ρ) → (Int → ρ) → Int → ρ} {k : Int → ρ} (hb : ∀ rec x, b rec k x = bif decide (x < (list.length : Int)) then bif !(m_spec_l23Fits m flows list ([x] : List Int)) then v else rec (x + 1) else k x) :
    (m_slices_ContainsFunc_impl_Job list (fun (a0 : gJob) => m_impl_FewestShifts_1 a0 m flows) = true ∧ LOOP b k (((list.length : Int) - 0 : Int).toNat + 1) 0 = v) ∨ (m_slices_ContainsFunc_impl_Job list (fun (a0 : gJob) => m_impl_FewestShifts_1 a0 m flows) = false ∧ (∀ i : Int, 0 ≤ i → i < list.length → m_impl_Mine_fitJobs m flows ([at' list i] : List gJob) = true) ∧ LOOP b k (((list.length : Int) - 0 : Int).toNat + 1) 0 = k (list.length : Int)) := by
  have key : ∀ (n : Nat) (i : Int), 0 ≤ i → i ≤ list.length → ((list.length : Int) - i).toNat < n → (∀ j : Int, 0 ≤ j → j < i → m_impl_Mine_fitJobs m flows ([at' list j] : List gJob) = true) →
      (0 ≤ LOOP (m_slices_IndexFunc_impl_Job_b1 list (fun (a0 : gJob) => m_impl_FewestShifts_1 a0 m flows)) (fun (x1 : Int) => (-1)) n i ∧ LOOP b k n i = v) ∨ (LOOP (m_slices_IndexFunc_impl_Job_b1 list (fun (a0 : gJob) => m_impl_FewestShifts_1 a0 m flows)) (fun (x1 : Int) => (-1)) n i = -1 ∧ (∀ i : Int, 0 ≤ i → i < list.length → m_impl_Mine_fitJobs m flows ([at' list i] : List gJob) = true) ∧ LOOP b k n i = k (list.length : Int)) := by
    intro n
    induction n with
    | zero => intro i _ _ h; omega
    | succ n ih =>
      intro i h0 h1 h2 h3
      rw [LOOP, LOOP, hb, m_slices_IndexFunc_impl_Job_b1]
      by_cases hi : i < (list.length : Int)
      · simp only [hi, decide_true, Bool.cond_true, m_impl_FewestShifts_1, single_iff hf]
        cases hfit : m_impl_Mine_fitJobs m flows ([at' list i] : List gJob) with
        | false => exact .inl ⟨h0, by first | rfl | trivial⟩
        | true =>
          simp only [Bool.not_true, Bool.cond_false]
          refine ih (i + 1) (by omega) (by omega) (by omega) (fun j j0 j1 => ?_)
          by_cases e : j = i
          · subst e; exact hfit
          · exact h3 j j0 (by omega)
      · have he : i = list.length := by omega
        subst he
        simp only [hi, decide_false, Bool.cond_false]
        exact .inr ⟨by first | rfl | trivial, h3, by first | rfl | trivial⟩
  rcases key (((list.length : Int) - 0 : Int).toNat + 1) 0 (by omega) (by omega) (by omega) (fun j h0 h1 => by omega) with ⟨h1, h2⟩ | ⟨h1, h2, h3⟩
  · exact .inl ⟨decide_eq_true (show 0 ≤ m_slices_IndexFunc_impl_Job list (fun (a0 : gJob) => m_impl_FewestShifts_1 a0 m flows) from h1), h2⟩
  · exact .inr ⟨decide_eq_false (show ¬ 0 ≤ m_slices_IndexFunc_impl_Job list (fun (a0 : gJob) => m_impl_FewestShifts_1 a0 m flows) from fun h => by have h9 : m_slices_IndexFunc_impl_Job list (fun (a0 : gJob) => m_impl_FewestShifts_1 a0 m flows) = -1 := h1; omega), h2, h3⟩
theorem sr_nil {m : gMine} {flows : List Int} {list : List gJob} {b n B : Int} (hf : FlowsIn m flows) (hj : JobsIn m list) (hb : 0 ≤ b) (hB : 0 ≤ B - b ∧ B ≤ 20000) (hn : 0 ≤ n ∧ n ≤ 30000) : SR (gshiftSearch.mk m flows list b []) (gl23Search.mk m flows list [] [] [] n (B - b) B) n 0 :=
  ⟨rfl, rfl, rfl, rfl, rfl, rfl, hf, hj, ⟨hb, by simp only; omega, hB.1, hB.2⟩, hn, by simp, by simp [usedS]; exact hn.1⟩
/-- what a search of a round leaves -/
theorem round_is {m : gMine} {flows : List Int} {list : List gJob} {b n : Int} (hj : list.length ≤ 12) (hb : 0 ≤ b ∧ b ≤ 20000) (hn : 0 ≤ n) (hs : ∀ i : Int, 0 ≤ i → i < list.length → m_impl_Mine_fitJobs m flows ([at' list i] : List gJob) = true) (hr : (m_impl_shiftSearch_extend (gshiftSearch.mk m flows list b []) n 0).1 = false) :
    (m_impl_shiftSearch_extend (gshiftSearch.mk m flows list b []) n 0).2.shifts = [] ∧ (m_impl_shiftSearch_extend (gshiftSearch.mk m flows list b []) n 0).2.budget ≤ b ∧ (1 ≤ n → (m_impl_shiftSearch_extend (gshiftSearch.mk m flows list b []) n 0).2.budget < b) := by
  have e : m_impl_shiftSearch_extend (gshiftSearch.mk m flows list b []) n 0 = m_impl_shiftSearch_extend_n (((list.length : Int) - (([] : List Int).length : Int)).toNat + 1) (gshiftSearch.mk m flows list b []) n 0 := rfl
  rw [e] at hr ⊢
  have hl : 0 < list.length := by
    rcases Nat.eq_zero_or_pos list.length with h | h
    · exfalso
      revert hr
      simp only [m_impl_shiftSearch_extend_n, m_impl_shiftSearch_extend_body]
      have : ((([] : List Int).length : Int) == (list.length : Int)) = true := beq_iff_eq.2 (by rw [h]; rfl)
      rw [this]; intro h; simp at h
    · exact h
  refine ⟨post_impl_shiftSearch_extend _ _ _ _ (by simp) (by simp only; omega) hr, extend_mono _ _ _ _ hb.1 (by simp only; omega) (by simp) (by simp only; omega), fun h1 => ?_⟩
  exact extend_prog (s := gshiftSearch.mk m flows list b []) ⟨hb.1, by simp only; omega⟩ rfl hl (by simp) h1 (by omega) (hs 0 (by omega) (by omega)) hr
theorem FewestShifts_eq (m : gMine) (flows : List Int) (list : List gJob) (budget : Int) : m_impl_FewestShifts m flows list budget = m_spec_FewestShifts m flows list budget := by
  simp only [m_impl_FewestShifts, m_spec_FewestShifts, m_spec_l23Begin, jobsCode_eq, m_impl_budgetValid]
  cases h1 : (m_spec_l23Ask m flows list == 1) with
  | true =>
    have : m_spec_l23Ask m flows list = 1 := by simpa using h1
    simp [this]
  | false =>
    simp only [Bool.cond_false]
    rw [show m_impl_within budget 1 20000 = m_spec_l00In budget 1 20000 from rfl]
    cases hb : m_spec_l00In budget 1 20000 with
    | false => rfl
    | true =>
      simp only [Bool.not_true, Bool.cond_false]
      cases h0 : (m_spec_l23Ask m flows list != 0) with
      | true => rfl
      | false =>
        simp only [Bool.cond_false]
        have h := l23Ask_imp (m := m) (flows := flows) (list := list) (by simpa using h0)
        have hbb := l00In_imp hb
        rcases singles h.2.1 (list := list) (([] : List Int), (0 : Int), (3 : Int)) (b := m_spec_FewestShifts_b1 m flows list budget) (fun rec x => rfl) with ⟨g1, g2⟩ | ⟨g1, g2, g3⟩
        · rw [g1, g2]; rfl
        · rw [g1, g3]
          simp only [Bool.cond_false]
          refine LOOP_sim (fun (x : Int × List Int × Int) (y : Int × Int × List Int) => x.2.1 = [] ∧ y.2.2 = [] ∧ x.2.2 = y.1 ∧ x.1 = budget - y.2.1 ∧ 0 ≤ x.1 ∧ 0 ≤ y.2.1 ∧ 0 ≤ y.1 ∧ y.1 ≤ y.2.1 + 1) (fun x => (2 * x.1 + (if x.2.2 = 0 then 1 else 0)).toNat) (fun y => (2 * (budget - y.2.1) + (if y.1 = 0 then 1 else 0)).toNat) (fun rec₁ rec₂ x y hR ih => ?_) _ _ _ _ ⟨rfl, rfl, rfl, by simp, by simp only; omega, by simp, by simp, by simp⟩ (by simp only [if_true]; omega) (by simp only [if_true]; omega)
          obtain ⟨b, sh, n⟩ := x
          obtain ⟨c, nd, sh2⟩ := y
          obtain ⟨e1, e2, e3, e4, r1, r2, r3, r4⟩ := hR
          simp only at e1 e2 e3 e4 r1 r2 r3 r4
          subst e1; subst e2; subst e3
          have hnd : nd = budget - b := by omega
          subst hnd
          simp only [m_impl_FewestShifts_b1, m_spec_FewestShifts_b2]
          have hrel := place_rel (((list.length : Int) - (([] : List Int).length : Int)).toNat + 1) _ _ _ _ (sr_nil (list := list) (b := b) (n := n) (B := budget) h.2.1 h.2.2 r1 (by omega) (by omega)) (by simp only; omega)
          have hround := round_is (m := m) (flows := flows) (list := list) (b := b) (n := n) h.2.2.1 (by omega) r3 g2
          have e5 : m_impl_shiftSearch_extend_n (((list.length : Int) - (([] : List Int).length : Int)).toNat + 1) (gshiftSearch.mk m flows list b []) n 0 = m_impl_shiftSearch_extend (gshiftSearch.mk m flows list b []) n 0 := rfl
          have e6 : m_spec_l23Search_place_n (((list.length : Int) - (([] : List Int).length : Int)).toNat + 1) (gl23Search.mk m flows list [] [] [] n (budget - b) budget) = m_spec_l23Search_place (gl23Search.mk m flows list [] [] [] n (budget - b) budget) := rfl
          rw [e5, e6] at hrel
          generalize m_impl_shiftSearch_extend (gshiftSearch.mk m flows list b []) n 0 = r at hrel hround ⊢
          generalize m_spec_l23Search_place (gl23Search.mk m flows list [] [] [] n (budget - b) budget) = q at hrel ⊢
          rcases hrel with ⟨h1, h2, h3, h4, h5⟩ | ⟨h1, h2, h3, h4⟩
          · simp only at h3 h5
            rw [h1]
            cases hq : q.1 with
            | true =>
              have hnb : ¬ budget < q.2.nodes := by omega
              simp only [Bool.cond_true, Bool.not_true, Bool.cond_false, hnb, decide_false, m_spec_l00Own, List.nil_append, h2]
            | false =>
              have hrd := hround (h1.trans hq)
              have hnb : ¬ r.2.budget < 0 := by omega
              simp only [Bool.cond_false, Bool.not_false, Bool.cond_true, hnb, decide_false]
              rw [wr64 (n := n + 1) (by omega), hrd.1]
              have hpr := hrd.2.2
              refine ih _ _ ⟨rfl, rfl, rfl, h3, h4, by simp only; omega, by simp only; omega, ?_⟩ ?_ ?_
              · simp only
                by_cases hz : 1 ≤ n
                · have := hpr hz; omega
                · omega
              · simp only
                by_cases hz : n = 0
                · subst hz; simp only [if_true]; have := hrd.2.1; rw [if_neg (by omega)]; omega
                · rw [if_neg (by omega), if_neg hz]; have := hpr (by omega); omega
              · simp only
                by_cases hz : n = 0
                · subst hz; simp only [if_true]; have := hrd.2.1; rw [if_neg (by omega)]; omega
                · rw [if_neg (by omega), if_neg hz]; have := hpr (by omega); omega
          · simp only at h4
            rw [h1, h3]
            simp only [Bool.cond_false, h2, decide_true, Bool.cond_true, Bool.not_true, h4]
theorem place_len : ∀ (fuel : Nat) (x : gl23Search), (x.shifts.length : Int) ≤ x.list.length → x.list.length ≤ 1000 → ((x.list.length : Int) - x.shifts.length).toNat < fuel → (m_spec_l23Search_place_n fuel x).2.shifts.length ≤ x.list.length
  | 0, _, _, _, h => by omega
  | fuel + 1, x, hl, hl2, hfu => by
    simp only [m_spec_l23Search_place_n, m_spec_l23Search_place_body]
    by_cases he : (x.shifts.length : Int) = (x.list.length : Int)
    · have : ((x.shifts.length : Int) == (x.list.length : Int)) = true := beq_iff_eq.2 he
      rw [this]; simp only [Bool.cond_true]; omega
    · have : ((x.shifts.length : Int) == (x.list.length : Int)) = false := beq_eq_false_iff_ne.2 he
      rw [this]
      simp only [Bool.cond_false]
      rw [used_loop (shifts := x.shifts) (fun rec y => rfl)]
      refine LOOP_post (b := m_spec_l23Search_place_b2 (m_spec_l23Search_place_n fuel) x (usedS x.shifts, (x.shifts.length : Int))) (fun (y : Int × (List Int) × Int) => y.2.1 = x.shifts) (fun y => (x.count - y.1).toNat) (fun _ (r : Bool × gl23Search) => r.2.shifts.length ≤ x.list.length) (fun rec y hI ih => ?_) _ _ rfl (by simp)
      obtain ⟨i, sh, nd⟩ := y
      simp only at hI
      subst hI
      simp only [m_spec_l23Search_place_b2]
      by_cases hi : i ≤ usedS x.shifts ∧ i < x.count
      · simp only [hi.1, hi.2, decide_true, Bool.and_true, Bool.cond_true]
        cases m_spec_l23Fits x.m_ x.flows x.list (m_spec_l23Search_with (gl23Search.mk x.m_ x.flows x.list x.some_ x.best x.shifts x.count nd x.budget) i (x.shifts.length : Int)) with
        | false => exact ih _ rfl (by simp only; omega)
        | true =>
          simp only [Bool.not_true, Bool.cond_false]
          cases decide (x.budget < (IntKind.wrap .i64 (nd + 1))) with
          | true => simp only [Bool.cond_true]; omega
          | false =>
            simp only [Bool.cond_false]
            have hp := post_spec_l23Search_place fuel (gl23Search.mk x.m_ x.flows x.list x.some_ x.best (x.shifts ++ ([i] : List Int)) x.count (IntKind.wrap .i64 (nd + 1)) x.budget) (by simp only [List.length_append, List.length_cons, List.length_nil]; omega) hl2 (by simp only [List.length_append, List.length_cons, List.length_nil]; omega)
            have hpl := place_len fuel (gl23Search.mk x.m_ x.flows x.list x.some_ x.best (x.shifts ++ ([i] : List Int)) x.count (IntKind.wrap .i64 (nd + 1)) x.budget) (by simp only [List.length_append, List.length_cons, List.length_nil]; omega) hl2 (by simp only [List.length_append, List.length_cons, List.length_nil]; omega)
            generalize (m_spec_l23Search_place_n fuel (gl23Search.mk x.m_ x.flows x.list x.some_ x.best (x.shifts ++ ([i] : List Int)) x.count (IntKind.wrap .i64 (nd + 1)) x.budget)) = q at hp hpl ⊢
            cases hq : q.1 with
            | true => exact hpl
            | false =>
              simp only [Bool.cond_false]
              rw [hp hq]
              simp only
              rw [app_cut (by omega)]
              exact ih _ rfl (by simp only; omega)
      · have : ((decide (i ≤ usedS x.shifts)) && (decide (i < x.count))) = false := by rw [Bool.eq_false_iff]; simpa using hi
        rw [this]; simp only [Bool.cond_false]; omega

end Go.Proofs.Ytchjibndocnnhaa
