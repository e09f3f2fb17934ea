/-
  PLAIN LAWS about the models: no program in sight. Conditions: as each theorem states them.
-/
import Derived.Test.YtchjibndocnnhaaCrewsPlain21
set_option linter.unusedVariables false
set_option linter.unusedSimpArgs false
set_option linter.unusedSectionVars false
set_option linter.unnecessarySimpa false
namespace Go.Proofs.Ytchjibndocnnhaa
open Go Go.RowKit Go.Proofs Go.Proofs.Ytchjibndocnnhaa.E
/-! ## The fewest shifts -/
theorem idxS_snoc {σ : List Int} {x s : Int} : idxS (σ ++ ([x] : List Int)) s = idxS σ s ++ (if x = s then ([(σ.length : Int)] : List Int) else []) := by
  simp only [idxS, List.length_append, List.length_singleton]
  rw [irange_succ, List.filter_append, List.map_append]
  have e1 : (irange 0 σ.length).filter (fun i => at' (σ ++ ([x] : List Int)) i == s) = (irange 0 σ.length).filter (fun i => at' σ i == s) := List.filter_congr fun i hi => by
    rw [mem_irange] at hi
    have : at' (σ ++ ([x] : List Int)) i = at' σ i := by
      have := at_app (A := σ) (x := x) (j := i.toNat) (by omega)
      rwa [Int.toNat_of_nonneg (by omega)] at this
    rw [this]
  rw [e1]
  congr 1
  have e2 : at' (σ ++ ([x] : List Int)) ((0 : Int) + (σ.length : Int)) = x := by rw [Int.zero_add]; exact at_app_last
  rw [List.filter_cons, e2]
  by_cases h : x = s
  · simp [h]
  · have : (x == s) = false := beq_eq_false_iff_ne.2 h
    simp [this, h]
def nxt (u x : Int) : Int := if u < (x + 1) then (x + 1) else u
structure PlaceOk (m : gMine) (flows : List Int) (list : List gJob) (n : Int) (σ : List Int) (u x : Int) : Prop where
  r : 0 ≤ x ∧ x < n ∧ x ≤ u
  f : FitW m flows list (idxS σ x ++ ([(σ.length : Int)] : List Int))
def Comp (m : gMine) (flows : List Int) (list : List gJob) (n : Int) : List Int → Int → List Int → Prop
  | σ, _, [] => σ.length = list.length
  | σ, u, x :: L => σ.length < list.length ∧ PlaceOk m flows list n σ u x ∧ Comp m flows list n (σ ++ ([x] : List Int)) (nxt u x) L
theorem idxS_in {σ : List Int} {x n : Int} (h : (σ.length : Int) ≤ n) : InR n (idxS σ x) := fun y hy => by have := idxS_rng y hy; omega
theorem extend_law {m : gMine} {flows : List Int} {list : List gJob} (hj : JobsIn m list) : ∀ (fuel : Nat) (s : gshiftSearch) (n u : Int), s.mine = m → s.flows = flows → s.list = list → s.shifts.length ≤ list.length → 0 ≤ u → u ≤ s.shifts.length → 0 ≤ s.budget → s.budget ≤ 1000000 → ((list.length : Int) - s.shifts.length).toNat < fuel →
    ((m_impl_shiftSearch_extend_n fuel s n u).1 = true → ∃ L, Comp m flows list n s.shifts u L ∧ (m_impl_shiftSearch_extend_n fuel s n u).2.shifts = s.shifts ++ L) ∧
    ((m_impl_shiftSearch_extend_n fuel s n u).1 = false → 0 ≤ (m_impl_shiftSearch_extend_n fuel s n u).2.budget → ∀ L, ¬ Comp m flows list n s.shifts u L)
  | 0, _, _, _, _, _, _, _, _, _, _, _, h => by omega
  | fuel + 1, s, n, u, em, ef, el, hl, hu0, hu1, hb0, hb1, hfu => by
    have hn := hj.1
    rw [m_impl_shiftSearch_extend_n]
    simp only [m_impl_shiftSearch_extend_body]
    by_cases he : (s.shifts.length : Int) = (s.list.length : Int)
    · have : ((s.shifts.length : Int) == (s.list.length : Int)) = true := beq_iff_eq.2 he
      rw [this]
      simp only [Bool.cond_true]
      exact ⟨fun _ => ⟨[], by rw [el] at he; exact Int.ofNat.inj he, by simp⟩, fun h => absurd h (by simp)⟩
    · have : ((s.shifts.length : Int) == (s.list.length : Int)) = false := beq_eq_false_iff_ne.2 he
      rw [this]
      simp only [Bool.cond_false]
      have hlt : s.shifts.length < list.length := by rw [el] at he; omega
      obtain ⟨E, hE⟩ : ∃ E, (if (IntKind.wrap .i64 (u + 1)) < n then (IntKind.wrap .i64 (u + 1)) else n) = E := ⟨_, rfl⟩
      have hEx : ∀ x : Int, x < E ↔ x ≤ u ∧ x < n := fun x => by
        rw [wr64 (n := u + 1) (by omega)] at hE
        rw [← hE]; split <;> omega
      simp only [hE]
      refine LOOP_post (b := m_impl_shiftSearch_extend_b1 (m_impl_shiftSearch_extend_n fuel) s n u) (fun (x : Int × Int × (List Int)) => x.2.2 = s.shifts ∧ 0 ≤ x.1 ∧ (0 ≤ x.2.1 ∧ x.2.1 ≤ 1000000) ∧ ∀ y L, 0 ≤ y → y < x.1 → ¬ Comp m flows list n s.shifts u (y :: L)) (fun x => (E - x.1).toNat)
        (fun _ (r : Bool × gshiftSearch) => (r.1 = true → ∃ L, Comp m flows list n s.shifts u L ∧ r.2.shifts = s.shifts ++ L) ∧ (r.1 = false → 0 ≤ r.2.budget → ∀ L, ¬ Comp m flows list n s.shifts u L)) (fun rec x hI ih => ?_) _ _ ⟨rfl, by simp, ⟨hb0, hb1⟩, fun y L h1 h2 => by simp only at h2; omega⟩ (by simp)
      obtain ⟨i, b, sh⟩ := x
      obtain ⟨e, hi0, ⟨hbb0, hbb1⟩, hno⟩ := hI
      simp only at e hi0 hbb0 hbb1 hno
      subst e
      simp only [m_impl_shiftSearch_extend_b1, hE]
      by_cases hi : i < E
      · have hi2 := (hEx i).1 hi
        simp only [hi, decide_true, Bool.cond_true]
        rw [impl_jobs (list := s.list) (shifts := s.shifts) (s := i) (fun rec x => rfl)]
        simp only
        have hS : ([at' s.list (s.shifts.length : Int)] : List gJob) ++ (idxS s.shifts i).map (at' s.list) = ((([(s.shifts.length : Int)] : List Int)) ++ idxS s.shifts i).map (at' list) := by rw [el]; rfl
        have hil := @idxS_len s.shifts i
        have hin : InR list.length ((([(s.shifts.length : Int)] : List Int)) ++ idxS s.shifts i) := InR.app (fun y hy => by rw [List.mem_singleton] at hy; omega) (idxS_in (by omega))
        have hfi := fit_w (flows := flows) hj hin (by simp only [List.length_append, List.length_singleton]; omega)
        rw [hS, em, ef]
        cases hf : m_impl_Mine_fitJobs m flows (((([(s.shifts.length : Int)] : List Int)) ++ idxS s.shifts i).map (at' list)) with
        | false =>
          simp only [Bool.not_false, Bool.cond_true]
          refine ih (i + 1, b, s.shifts) ⟨rfl, by simp only; omega, ⟨hbb0, hbb1⟩, fun y L h1 h2 h3 => ?_⟩ (by simp only; omega)
          simp only at h2
          by_cases ey : y = i
          · subst ey
            have := hfi.2 h3.2.1.f.comm
            rw [hf] at this; simp at this
          · exact hno y L h1 (by omega) h3
        | true =>
          simp only [Bool.not_true, Bool.cond_false]
          rw [wr64 (n := b - 1) (by omega)]
          have hpl : PlaceOk m flows list n s.shifts u i := ⟨⟨hi0, hi2.2, hi2.1⟩, (hfi.1 hf).comm⟩
          by_cases hov : b - 1 < 0
          · simp only [hov, decide_true, Bool.cond_true]
            exact ⟨fun h => absurd h (by simp), fun _ h => by (try simp only at h); omega⟩
          · simp only [hov, decide_false, Bool.cond_false]
            rw [el]
            have hnx : (if u < (i + 1) then (i + 1) else u) = nxt u i := rfl
            rw [hnx]
            have hnx0 : 0 ≤ nxt u i ∧ nxt u i ≤ ((s.shifts ++ ([i] : List Int)).length : Int) := by unfold nxt; simp only [List.length_append, List.length_singleton]; split <;> omega
            have hp := post_impl_shiftSearch_extend fuel (gshiftSearch.mk m flows list (b - 1) (s.shifts ++ ([i] : List Int))) n (nxt u i) (by simp only [List.length_append, List.length_singleton]; omega) (by simp only [List.length_append, List.length_singleton]; omega)
            have hrec := extend_law hj fuel (gshiftSearch.mk m flows list (b - 1) (s.shifts ++ ([i] : List Int))) n (nxt u i) rfl rfl rfl (by simp only [List.length_append, List.length_singleton]; omega) hnx0.1 hnx0.2 (by simp only; omega) (by simp only; omega) (by simp only [List.length_append, List.length_singleton]; omega)
            have hmo := extend_mono fuel (gshiftSearch.mk m flows list (b - 1) (s.shifts ++ ([i] : List Int))) n (nxt u i) (by simp only; omega) (by simp only; omega) (by simp only [List.length_append, List.length_singleton]; omega) (by simp only [List.length_append, List.length_singleton]; omega)
            simp only at hrec hmo
            generalize m_impl_shiftSearch_extend_n fuel (gshiftSearch.mk m flows list (b - 1) (s.shifts ++ ([i] : List Int))) n (nxt u i) = q at hp hrec hmo ⊢
            cases hq : q.1 with
            | true =>
              simp only [Bool.cond_true]
              obtain ⟨L, hL, hs⟩ := hrec.1 hq
              exact ⟨fun _ => ⟨i :: L, ⟨hlt, hpl, hL⟩, by rw [hs]; simp⟩, fun h => absurd h (by simp)⟩
            | false =>
              simp only [Bool.cond_false]
              rw [hp hq]
              simp only
              rw [pre_app]
              by_cases hov2 : q.2.budget < 0
              · simp only [hov2, decide_true, Bool.cond_true]
                exact ⟨fun h => absurd h (by simp), fun _ h => by (try simp only at h); omega⟩
              · simp only [hov2, decide_false, Bool.cond_false]
                refine ih (i + 1, q.2.budget, s.shifts) ⟨rfl, by simp only; omega, ⟨by simp only; omega, by simp only; omega⟩, fun y L h1 h2 h3 => ?_⟩ (by simp only; omega)
                simp only at h2
                by_cases ey : y = i
                · subst ey; exact hrec.2 hq (by omega) L h3.2.2
                · exact hno y L h1 (by omega) h3
      · simp only [hi, decide_false, Bool.cond_false]
        refine ⟨fun h => absurd h (by simp), fun _ _ L hL => ?_⟩
        cases L with
        | nil => have : s.shifts.length = list.length := hL; omega
        | cons y L =>
          have hr := hL.2.1.r
          exact hno y L hr.1 (by have := (hEx y).2 ⟨hr.2.2, hr.2.1⟩; omega) hL
/-! ### what a full list of shifts is -/
structure CI (m : gMine) (flows : List Int) (list : List gJob) (σ : List Int) (u : Int) : Prop where
  fit : ∀ s, FitW m flows list (idxS σ s)
  ent : ∀ y ∈ σ, 0 ≤ y ∧ y < u
  use : ∀ s, 0 ≤ s → s < u → s ∈ σ
  ub : 0 ≤ u ∧ u ≤ σ.length
theorem CI.nil {m : gMine} {flows : List Int} {list : List gJob} (hf : FlowsIn m flows) : CI m flows list [] 0 := ⟨fun s => FitW.nil hf, fun y hy => absurd hy List.not_mem_nil, fun s h0 h1 => by omega, by simp⟩
theorem CI.step {m : gMine} {flows : List Int} {list : List gJob} {n : Int} {σ : List Int} {u x : Int} (h : CI m flows list σ u) (hp : PlaceOk m flows list n σ u x) : CI m flows list (σ ++ ([x] : List Int)) (nxt u x) := by
  have hr := hp.r
  have hub := h.ub
  have hnx : u ≤ nxt u x ∧ x < nxt u x ∧ nxt u x ≤ u + 1 := by unfold nxt; split <;> omega
  refine ⟨fun s => ?_, fun y hy => ?_, fun s h0 h1 => ?_, by simp only [List.length_append, List.length_singleton]; omega⟩
  · rw [idxS_snoc]
    by_cases e : x = s
    · subst e; rw [if_pos rfl]; exact hp.f
    · rw [if_neg e, List.append_nil]; exact h.fit s
  · rw [List.mem_append, List.mem_singleton] at hy
    rcases hy with hy | hy
    · have := h.ent y hy; omega
    · omega
  · rw [List.mem_append, List.mem_singleton]
    by_cases hs : s < u
    · exact .inl (h.use s h0 hs)
    · right
      unfold nxt at h1; split at h1 <;> omega
theorem comp_law {m : gMine} {flows : List Int} {list : List gJob} {n : Int} : ∀ (L σ : List Int) (u : Int), CI m flows list σ u → Comp m flows list n σ u L → ∃ U, u ≤ U ∧ (u ≤ n → U ≤ n) ∧ CI m flows list (σ ++ L) U ∧ Comp m flows list U σ u L ∧ (σ ++ L).length = list.length
  | [], σ, u, hc, h => ⟨u, Int.le_refl _, id, by simpa using hc, h, by rw [List.append_nil]; exact h⟩
  | x :: L, σ, u, hc, h => by
    obtain ⟨h1, h2, h3⟩ := h
    obtain ⟨U, g1, g2, g3, g4, g5⟩ := comp_law L _ _ (hc.step h2) h3
    have hr := h2.r
    have hnx : u ≤ nxt u x ∧ x < nxt u x ∧ (u ≤ n → nxt u x ≤ n) := by unfold nxt; split <;> omega
    refine ⟨U, by omega, fun h => g2 (hnx.2.2 h), by simpa using g3, ⟨h1, ⟨⟨hr.1, by omega, hr.2.2⟩, h2.f⟩, g4⟩, by simpa using g5⟩
/-! ### sums over shifts -/
def tot (g : Int → Int) : List Int → Int
  | [] => 0
  | x :: l => g x + tot g l
theorem tot_app (g : Int → Int) : ∀ (A B : List Int), tot g (A ++ B) = tot g A + tot g B
  | [], B => by simp [tot]
  | x :: A, B => by simp only [List.cons_append, tot, tot_app g A B]; omega
theorem tot_add (g h : Int → Int) : ∀ (A : List Int), tot (fun i => g i + h i) A = tot g A + tot h A
  | [] => by simp [tot]
  | x :: A => by simp only [tot, tot_add g h A]; omega
theorem tot_congr {g h : Int → Int} : ∀ {A : List Int}, (∀ i ∈ A, g i = h i) → tot g A = tot h A
  | [], _ => rfl
  | x :: A, e => by simp only [tot]; rw [e x List.mem_cons_self, tot_congr fun i hi => e i (List.mem_cons_of_mem _ hi)]
theorem tot_pt {x c : Int} : ∀ (n : Nat), tot (fun s => if x = s then c else 0) (irange 0 n) = if 0 ≤ x ∧ x < n then c else 0
  | 0 => by simp only [irange, tot]; split <;> omega
  | n + 1 => by
    rw [irange_succ, tot_app, tot_pt n]
    simp only [tot]
    by_cases h1 : x = 0 + (n : Int)
    · rw [if_pos h1, if_neg (by omega), if_pos (by omega)]; omega
    · rw [if_neg h1]
      by_cases h2 : 0 ≤ x ∧ x < n
      · rw [if_pos h2, if_pos (by omega)]; omega
      · rw [if_neg h2, if_neg (by omega)]; omega
theorem tot_shift {g : Int → Int} {n : Nat} : ∀ (L σ : List Int), (∀ y ∈ σ ++ L, 0 ≤ y ∧ y < n) → tot (fun s => tot g (idxS σ s)) (irange 0 n) = tot g (irange 0 σ.length) → tot (fun s => tot g (idxS (σ ++ L) s)) (irange 0 n) = tot g (irange 0 (σ ++ L).length)
  | [], σ, _, h => by simpa using h
  | x :: L, σ, hr, h => by
    have hx := hr x (by simp)
    have e : σ ++ x :: L = (σ ++ ([x] : List Int)) ++ L := by simp
    rw [e]
    refine tot_shift L _ (by rw [← e]; exact hr) ?_
    have e1 : tot (fun s => tot g (idxS (σ ++ ([x] : List Int)) s)) (irange 0 n) = tot (fun s => tot g (idxS σ s) + (if x = s then g (σ.length : Int) else 0)) (irange 0 n) := tot_congr fun s _ => by
      rw [idxS_snoc, tot_app]
      by_cases h : x = s
      · rw [if_pos h, if_pos h]; simp [tot]
      · rw [if_neg h, if_neg h]; simp [tot]
    rw [e1, tot_add (fun s => tot g (idxS σ s)), h, tot_pt, if_pos hx, List.length_append, List.length_singleton, irange_succ, tot_app]
    simp [tot]
theorem tot_all {g : Int → Int} {n : Nat} {L : List Int} (hr : ∀ y ∈ L, 0 ≤ y ∧ y < n) : tot (fun s => tot g (idxS L s)) (irange 0 n) = tot g (irange 0 L.length) := by
  have h0 : tot (fun s => tot g (idxS [] s)) (irange 0 n) = tot g (irange 0 ([] : List Int).length) := by
    have : ∀ A : List Int, tot (fun s => tot g (idxS [] s)) A = 0 := fun A => by
      induction A with
      | nil => rfl
      | cons x A ih => simp only [tot, ih]; simp [idxS, irange, tot]
    rw [this]; rfl
  exact tot_shift L [] hr h0
theorem tot_one (l : List Int) : tot (fun _ => 1) l = l.length := by
  induction l with
  | nil => rfl
  | cons x l ih => simp only [tot, ih, List.length_cons]; omega
theorem tot_le {g : Int → Int} {c : Int} : ∀ {A : List Int}, (∀ i ∈ A, g i ≤ c) → tot g A ≤ c * A.length
  | [], _ => by simp [tot]
  | x :: A, h => by
    have h1 := h x List.mem_cons_self
    have h2 := tot_le fun i hi => h i (List.mem_cons_of_mem _ hi)
    simp only [tot, List.length_cons]
    have : c * ((A.length + 1 : Nat) : Int) = c * A.length + c := by push_cast; rw [Int.mul_add, Int.mul_one]
    omega

end Go.Proofs.Ytchjibndocnnhaa
