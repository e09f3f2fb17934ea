/-
  PLAIN LAWS about the models: no program in sight. Conditions: as each theorem states them.
-/
import Derived.Test.YtjieemgagalkjaaExactLastStartPlain13
set_option linter.unusedVariables false
set_option linter.unusedSimpArgs false
set_option linter.unusedSectionVars false
set_option linter.unnecessarySimpa false
namespace Go.Proofs.Ytjieemgagalkjaa
open Go Go.RowKit Go.Proofs Go.Proofs.Ytjieemgagalkjaa.E
/-! ## LastStart: halving the span, two ways -/
theorem escapeOfE (m : gMine) (arr : List Int) (blocked : Int) (c : gCrew) (start : Int) (exits : List Int) : (m_impl_escapeOf m arr blocked [c] start exits).2.1 = (bif m_spec_l19Ask m arr blocked c start != 0 then m_spec_l19Ask m arr blocked c start else bif !(m_spec_l00Rises exits 0 (IntKind.wrap .i64 (m.Junctions - 1))) then 7 else 0) ∧ ((m_impl_escapeOf m arr blocked [c] start exits).2.1 = 0 → (m_impl_escapeOf m arr blocked [c] start exits).1 = gescape.mk m arr blocked) := by
  refine ⟨?_, fun h => (escapeOf_imp h).1⟩
  have hj : m_impl_Mine_hasJunctions m exits = m_spec_l00Rises exits 0 (IntKind.wrap .i64 (m.Junctions - 1)) := rises_eq exits _
  simp only [m_impl_escapeOf, m_spec_l19Ask, crews1_eq, l19Arr_eq, within_eq, m_spec_l17Time, hj]
  cases m_spec_l04Ok m <;> cases m_spec_l19One c <;> cases decide (m.Junctions ≤ c.Junction) <;> cases m_spec_l00In blocked (-1) ((m.Airways.length : Int) - 1) <;> cases m_spec_l00In start 0 36000 <;> cases hl : ((arr.length : Int) == m.Junctions) <;> cases m_impl_allWithin arr (-1) 1000000000000 <;> cases m_spec_l00Rises exits 0 (IntKind.wrap .i64 (m.Junctions - 1)) <;> simp [bne, hl]
theorem srch_mid {i j : Int} (h0 : 0 ≤ i) (h1 : i < j) (h2 : j ≤ 1000000) : IntKind.wrap .i64 (Int.fdiv (IntKind.wrap .u64 (IntKind.wrap .i64 (i + j))) (2 ^ min (1 : Int).toNat 64)) = (i + j) / 2 := by
  have e1 : IntKind.wrap .i64 (i + j) = i + j := wr64 (by omega)
  have e2 : IntKind.wrap .u64 (i + j) = i + j := by
    have : IntKind.wrap .u64 (i + j) = (i + j) % 18446744073709551616 := by simp [IntKind.wrap, IntKind.signed, IntKind.bits]
    omega
  have e3 : ((2 : Int) ^ min (1 : Int).toNat 64) = 2 := by decide
  rw [e1, e2, e3, Int.fdiv_eq_ediv_of_nonneg _ (by omega)]
  exact wr64 (by omega)
theorem last_mid {i j : Int} (h0 : 0 ≤ i) (h1 : i < j) (h2 : j ≤ 1000000) : IntKind.wrap .i64 (Int.tdiv (IntKind.wrap .i64 ((IntKind.wrap .i64 (i + j)) + 1)) 2) = (i + j + 1) / 2 := by
  rw [wr64 (n := i + j) (by omega), wr64 (n := i + j + 1) (by omega), Int.tdiv_eq_ediv_of_nonneg (by omega)]
  exact wr64 (by omega)
theorem search_is {n : Int} (hn : 0 ≤ n ∧ n ≤ 1000000) {f : Int → Bool} (hf : ∀ i j, 0 ≤ i → i ≤ j → j < n → f i = true → f j = true) :
    0 ≤ m_sort_Search n f ∧ m_sort_Search n f ≤ n ∧ (∀ j, 0 ≤ j → j < m_sort_Search n f → f j = false) ∧ (∀ j, m_sort_Search n f ≤ j → j < n → f j = true) := by
  simp only [m_sort_Search]
  refine LOOP_post (fun (x : Int × Int) => 0 ≤ x.1 ∧ x.1 ≤ x.2 ∧ x.2 ≤ n ∧ (∀ q, 0 ≤ q → q < x.1 → f q = false) ∧ (∀ q, x.2 ≤ q → q < n → f q = true)) (fun x => (x.2 - x.1).toNat)
    (fun _ (r : Int) => 0 ≤ r ∧ r ≤ n ∧ (∀ j, 0 ≤ j → j < r → f j = false) ∧ (∀ j, r ≤ j → j < n → f j = true)) (fun rec x hI ih => ?_) _ _ ⟨by simp, by simp; omega, by simp, by intro q h1 h2; dsimp only at h2; omega, by intro q h1 h2; dsimp only at h1; omega⟩ (by dsimp only; omega)
  obtain ⟨i, j⟩ := x
  obtain ⟨h1, h2, h3, h4, h5⟩ := hI
  simp only at h1 h2 h3 h4 h5
  simp only [m_sort_Search_b1]
  by_cases hij : i < j
  · have hm := srch_mid h1 hij (by omega)
    simp only [hij, decide_true, Bool.cond_true, hm]
    cases hf' : f ((i + j) / 2) with
    | false =>
      simp only [Bool.not_false, Bool.cond_true]
      rw [wr64 (n := (i + j) / 2 + 1) (by omega)]
      refine ih _ ⟨by simp only; omega, by simp only; omega, by simp only; omega, ?_, h5⟩ (by simp only; omega)
      intro q hq1 hq2
      simp only at hq2
      cases hq : f q with
      | false => rfl
      | true => have := hf q ((i + j) / 2) hq1 (by omega) (by omega) hq; rw [hf'] at this; exact absurd this (by simp)
    | true =>
      simp only [Bool.not_true, Bool.cond_false]
      refine ih _ ⟨by simp only; omega, by simp only; omega, by simp only; omega, h4, ?_⟩ (by simp only; omega)
      intro q hq1 hq2
      simp only at hq1
      exact hf ((i + j) / 2) q (by omega) hq1 hq2 hf'
  · simp only [hij, decide_false, Bool.cond_false]
    have e : i = j := by omega
    subst e
    exact ⟨h1, h3, h4, h5⟩
section
variable {m : gMine} {arr : List Int} {blocked : Int} {c : gCrew} {start : Int} {exits : List Int}
theorem rtE (hm : MineIn m) (hc : CrewIn m c) (hs : 0 ≤ start ∧ start ≤ 36000) (he : m_spec_l00Rises exits 0 (IntKind.wrap .i64 (m.Junctions - 1)) = true) : ∀ y ∈ exits, 0 ≤ y ∧ y < (m_spec_l19Times m arr blocked c start).length := by
  have hT := (times_SmB (arr := arr) (blocked := blocked) hm hc hs).1
  have hJ := hm.1
  intro y hy
  have := rises_imp he y hy
  rw [wr64 (n := m.Junctions - 1) (by omega)] at this
  omega
theorem escR (h : (m_impl_escapeOf m arr blocked [c] start exits).2.1 = 0) : (MineIn m ∧ CrewIn m c ∧ 0 ≤ start ∧ start ≤ 36000) ∧ m_spec_l00Rises exits 0 (IntKind.wrap .i64 (m.Junctions - 1)) = true ∧ m_impl_escape_times (m_impl_escapeOf m arr blocked [c] start exits).1 c start = m_spec_l19Times m arr blocked c start := by
  have hE := (escapeOf_imp h).1
  have hM := escapeOf_impM h
  have hC := escapeOf_impC h
  have hS := escapeOf_impS h
  have hj : m_impl_Mine_hasJunctions m exits = m_spec_l00Rises exits 0 (IntKind.wrap .i64 (m.Junctions - 1)) := rises_eq exits _
  rw [hE] at hM hC ⊢
  exact ⟨⟨hM, hC, hS⟩, by rw [← hj]; exact (escapeOf_imp h).2.2.2.2, times_eq hM hC hS⟩
theorem exits_in (hm : MineIn m) (h : m_spec_l00Rises exits 0 (IntKind.wrap .i64 (m.Junctions - 1)) = true) : ∀ y ∈ exits, 0 ≤ y ∧ y < m.Junctions := by
  have hJ := hm.1
  intro y hy
  have := rises_imp h y hy
  rw [wr64 (n := m.Junctions - 1) (by omega)] at this
  omega
theorem tm_len {e : gescape} (hm : MineIn e.mine) (hc : CrewIn e.mine c) (hs : 0 ≤ start ∧ start ≤ 36000) : ((m_impl_escape_times e c start).length : Int) = e.mine.Junctions := by
  obtain ⟨a, b, d⟩ := e
  rw [times_eq hm hc hs]; exact (times_SmB (arr := b) (blocked := d) hm hc hs).1
theorem tm_in {e : gescape} {xs : List Int} (hm : MineIn e.mine) (hc : CrewIn e.mine c) (hs : 0 ≤ start ∧ start ≤ 36000) (h : ∀ y ∈ xs, 0 ≤ y ∧ y < e.mine.Junctions) : ∀ y ∈ xs, 0 ≤ y ∧ y < (m_impl_escape_times e c start).length := by
  have := tm_len hm hc hs
  intro y hy; have := h y hy; omega
theorem lsE (h : (m_impl_escapeOf m arr blocked [c] start exits).2.1 = 0) : ∀ y ∈ exits, 0 ≤ y ∧ y < (m_impl_escapeOf m arr blocked [c] start exits).1.mine.Junctions := by
  have g := escR h
  rw [(escapeOf_imp h).1]; exact exits_in g.1.1 g.2.1
theorem LastStart_eq (m : gMine) (arr : List Int) (blocked : Int) (c : gCrew) (exits : List Int) : m_impl_LastStart m arr blocked c exits = m_spec_LastStart m arr blocked c exits := by
  obtain ⟨h1, h2⟩ := escapeOfE m arr blocked c 0 exits
  simp only [m_impl_LastStart, m_spec_LastStart]
  cases ha : (m_spec_l19Ask m arr blocked c 0 != 0) with
  | true =>
    rw [ha, Bool.cond_true] at h1
    rw [h1, ha]; rfl
  | false =>
    rw [ha, Bool.cond_false] at h1
    have h0 : m_spec_l19Ask m arr blocked c 0 = 0 := by simpa using ha
    cases hr : m_spec_l00Rises exits 0 (IntKind.wrap .i64 (m.Junctions - 1)) with
    | false => rw [hr] at h1; rw [h1]; rfl
    | true =>
      rw [hr] at h1
      simp only [Bool.not_true, Bool.cond_false] at h1
      rw [h1, h2 h1]
      have hi := l19Ask_imp h0
      have hex := exits_in hi.1 hr
      simp only [bne_self_eq_false, Bool.cond_false, Bool.not_true, m_impl_firstIn, m_impl_firstIn_1, m_impl_LastStart_1, m_impl_orNotFound]
      have e36 : IntKind.wrap .i64 (IntKind.wrap .i64 (36000 - 0) + 1) = 36001 := by decide
      simp only [e36]
      let f : Int → Bool := fun a0 => decide (m_impl_firstReached (m_impl_escape_times (gescape.mk m arr blocked) c (IntKind.wrap .i64 (0 + a0))) exits < 0)
      let T : Int → Prop := fun t => 0 ≤ m_spec_l19Exit (m_spec_l19Times m arr blocked c t) exits
      have hfT : ∀ a, 0 ≤ a → a < 36001 → (f a = false ↔ T a) := by
        intro a ha0 ha1
        show (decide (m_spec_l19Exit (m_impl_escape_times (gescape.mk m arr blocked) c (IntKind.wrap .i64 (0 + a))) exits < 0) = false) ↔ _
        rw [wr64 (n := 0 + a) (by omega), Int.zero_add, times_eq hi.1 hi.2.1 ⟨ha0, by omega⟩, decide_eq_false_iff_not, Int.not_lt]
      have hT : ∀ i j, 0 ≤ i → i ≤ j → j < 36001 → T j → T i := fun i j hi0 hij hj h => out_sooner hi.1 hi.2.1 hex hi0 hij (by omega) h
      have hS := search_is (n := 36001) ⟨by omega, by omega⟩ (f := f) (fun i j hi0 hij hj h => by
        cases hfj : f j with
        | true => rfl
        | false =>
          have := (hfT i hi0 (by omega)).2 (hT i j hi0 hij hj ((hfT j (by omega) hj).1 hfj))
          rw [h] at this; exact absurd this (by simp))
      change (bif !decide (m_sort_Search 36001 f < 36001) then (36000, 0) else (bif !decide (0 < IntKind.wrap .i64 (0 + m_sort_Search 36001 f)) then ((0 : Int), (3 : Int)) else (IntKind.wrap .i64 (IntKind.wrap .i64 (0 + m_sort_Search 36001 f) - 1), 0))) = _
      generalize m_sort_Search 36001 f = k at hS
      obtain ⟨hk0, hk1, hk2, hk3⟩ := hS
      rw [wr64 (n := 0 + k) (by omega), Int.zero_add, wr64 (n := k - 1) (by omega)]
      have hTk : ∀ t, 0 ≤ t → t ≤ 36000 → (T t ↔ t < k) := by
        intro t ht0 ht1
        constructor
        · intro h
          by_cases hlt : t < k
          · exact hlt
          · have := hk3 t (by omega) (by omega)
            rw [(hfT t ht0 (by omega)).2 h] at this; exact absurd this (by simp)
        · intro h; exact (hfT t ht0 (by omega)).1 (hk2 t ht0 h)
      by_cases hz : k = 0
      · subst hz
        have : m_spec_l19Exit (m_spec_l19Times m arr blocked c 0) exits < 0 := by
          have := (not_congr (hTk 0 (by omega) (by omega))).2 (by omega)
          exact Int.not_le.1 this
        simp [this]
      · have hT0 : ¬ m_spec_l19Exit (m_spec_l19Times m arr blocked c 0) exits < 0 := Int.not_lt.2 ((hTk 0 (by omega) (by omega)).2 (by omega))
        have hloop : LOOP (m_spec_LastStart_b1 m arr blocked c exits) (fun (x1 : Int × Int) => (x1.1, (0 : Int))) 36001 (0, 36000) = (k - 1, 0) := by
          refine LOOP_is (fun (x : Int × Int) => 0 ≤ x.1 ∧ x.1 ≤ k - 1 ∧ k - 1 ≤ x.2 ∧ x.2 ≤ 36000) (fun x => (x.2 - x.1).toNat) (fun _ => (k - 1, 0)) (fun rec x hI ih => ?_) ⟨by simp, by simp; omega, by simp; omega, by simp⟩ (by simp)
          obtain ⟨lo, hi'⟩ := x
          obtain ⟨g1, g2, g3, g4⟩ := hI
          simp only at g1 g2 g3 g4
          simp only [m_spec_LastStart_b1]
          by_cases hlt : lo < hi'
          · have hm := last_mid g1 hlt (by omega)
            simp only [hlt, decide_true, Bool.cond_true, hm]
            by_cases ht : T ((lo + hi' + 1) / 2)
            · have hlk := (hTk _ (by omega) (by omega)).1 ht
              have hd : decide (0 ≤ m_spec_l19Exit (m_spec_l19Times m arr blocked c ((lo + hi' + 1) / 2)) exits) = true := decide_eq_true ht
              rw [hd, Bool.cond_true]
              exact ih _ ⟨by simp only; omega, by simp only; omega, by simp only; omega, by simp only; omega⟩ (by simp only; omega)
            · have hlk := (not_congr (hTk _ (by omega) (by omega))).1 ht
              have hd : decide (0 ≤ m_spec_l19Exit (m_spec_l19Times m arr blocked c ((lo + hi' + 1) / 2)) exits) = false := decide_eq_false ht
              rw [hd, Bool.cond_false, wr64 (n := (lo + hi' + 1) / 2 - 1) (by omega)]
              exact ih _ ⟨by simp only; omega, by simp only; omega, by simp only; omega, by simp only; omega⟩ (by simp only; omega)
          · simp only [hlt, decide_false, Bool.cond_false]
            have : lo = k - 1 := by omega
            rw [this]
        simp only [hT0, decide_false, Bool.cond_false]
        rw [hloop]
        by_cases hk : k < 36001
        · have hp : 0 < k := by omega
          simp [hk, hp]
        · have : k = 36001 := by omega
          subst this; simp
end

end Go.Proofs.Ytjieemgagalkjaa
