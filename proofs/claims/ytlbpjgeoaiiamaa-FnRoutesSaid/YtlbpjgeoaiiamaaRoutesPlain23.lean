/-
  PLAIN LAWS about the models: no program in sight. Conditions: as each theorem states them.
-/
import Derived.Test.YtlbpjgeoaiiamaaRoutesPlain22
set_option linter.unusedVariables false
set_option linter.unusedSimpArgs false
set_option linter.unusedSectionVars false
set_option linter.unnecessarySimpa false
namespace Go.Proofs.Ytlbpjgeoaiiamaa
open Go Go.RowKit Go.Proofs Go.Proofs.Ytlbpjgeoaiiamaa.E
/-! ## The last start, by the program alone -/
theorem escapeOfE (m : gMine) (arr : List Int) (blocked : Int) (c : gCrew) (start : Int) (exits : List Int) : (m_impl_escapeOf m arr blocked [c] start exits).2.1 = (bif m_spec_l19Ask m arr blocked c start != 0 then m_spec_l19Ask m arr blocked c start else bif !(m_spec_l00Rises exits 0 (IntKind.wrap .i64 (m.Junctions - 1))) then 7 else 0) ∧ ((m_impl_escapeOf m arr blocked [c] start exits).2.1 = 0 → (m_impl_escapeOf m arr blocked [c] start exits).1 = gescape.mk m arr blocked) := by
  refine ⟨?_, fun h => (escapeOf_imp h).1⟩
  have hj : m_impl_Mine_hasJunctions m exits = m_spec_l00Rises exits 0 (IntKind.wrap .i64 (m.Junctions - 1)) := rises_eq exits _
  simp only [m_impl_escapeOf, m_spec_l19Ask, crews1_eq, l19Arr_eq, within_eq, m_spec_l17Time, hj]
  cases m_spec_l04Ok m <;> cases m_spec_l19One c <;> cases decide (m.Junctions ≤ c.Junction) <;> cases m_spec_l00In blocked (-1) ((m.Airways.length : Int) - 1) <;> cases m_spec_l00In start 0 36000 <;> cases hl : ((arr.length : Int) == m.Junctions) <;> cases m_impl_allWithin arr (-1) 1000000000000 <;> cases m_spec_l00Rises exits 0 (IntKind.wrap .i64 (m.Junctions - 1)) <;> simp [bne, hl]
theorem srch_mid {i j : Int} (h0 : 0 ≤ i) (h1 : i < j) (h2 : j ≤ 1000000) : IntKind.wrap .i64 (Int.fdiv (IntKind.wrap .u64 (IntKind.wrap .i64 (i + j))) (2 ^ min (1 : Int).toNat 64)) = (i + j) / 2 := by
  have e1 : IntKind.wrap .i64 (i + j) = i + j := wr64 (by omega)
  have e2 : IntKind.wrap .u64 (i + j) = i + j := by
    have : IntKind.wrap .u64 (i + j) = (i + j) % 18446744073709551616 := by simp [IntKind.wrap, IntKind.signed, IntKind.bits]
    omega
  have e3 : ((2 : Int) ^ min (1 : Int).toNat 64) = 2 := by decide
  rw [e1, e2, e3, Int.fdiv_eq_ediv_of_nonneg _ (by omega)]
  exact wr64 (by omega)
theorem last_mid {i j : Int} (h0 : 0 ≤ i) (h1 : i < j) (h2 : j ≤ 1000000) : IntKind.wrap .i64 (Int.tdiv (IntKind.wrap .i64 ((IntKind.wrap .i64 (i + j)) + 1)) 2) = (i + j + 1) / 2 := by
  rw [wr64 (n := i + j) (by omega), wr64 (n := i + j + 1) (by omega), Int.tdiv_eq_ediv_of_nonneg (by omega)]
  exact wr64 (by omega)
theorem search_is {n : Int} (hn : 0 ≤ n ∧ n ≤ 1000000) {f : Int → Bool} (hf : ∀ i j, 0 ≤ i → i ≤ j → j < n → f i = true → f j = true) :
    0 ≤ m_sort_Search n f ∧ m_sort_Search n f ≤ n ∧ (∀ j, 0 ≤ j → j < m_sort_Search n f → f j = false) ∧ (∀ j, m_sort_Search n f ≤ j → j < n → f j = true) := by
  simp only [m_sort_Search]
  refine LOOP_post (fun (x : Int × Int) => 0 ≤ x.1 ∧ x.1 ≤ x.2 ∧ x.2 ≤ n ∧ (∀ q, 0 ≤ q → q < x.1 → f q = false) ∧ (∀ q, x.2 ≤ q → q < n → f q = true)) (fun x => (x.2 - x.1).toNat)
    (fun _ (r : Int) => 0 ≤ r ∧ r ≤ n ∧ (∀ j, 0 ≤ j → j < r → f j = false) ∧ (∀ j, r ≤ j → j < n → f j = true)) (fun rec x hI ih => ?_) _ _ ⟨by simp, by simp; omega, by simp, by intro q h1 h2; dsimp only at h2; omega, by intro q h1 h2; dsimp only at h1; omega⟩ (by dsimp only; omega)
  obtain ⟨i, j⟩ := x
  obtain ⟨h1, h2, h3, h4, h5⟩ := hI
  simp only at h1 h2 h3 h4 h5
  simp only [m_sort_Search_b1]
  by_cases hij : i < j
  · have hm := srch_mid h1 hij (by omega)
    simp only [hij, decide_true, Bool.cond_true, hm]
    cases hf' : f ((i + j) / 2) with
    | false =>
      simp only [Bool.not_false, Bool.cond_true]
      rw [wr64 (n := (i + j) / 2 + 1) (by omega)]
      refine ih _ ⟨by simp only; omega, by simp only; omega, by simp only; omega, ?_, h5⟩ (by simp only; omega)
      intro q hq1 hq2
      simp only at hq2
      cases hq : f q with
      | false => rfl
      | true => have := hf q ((i + j) / 2) hq1 (by omega) (by omega) hq; rw [hf'] at this; exact absurd this (by simp)
    | true =>
      simp only [Bool.not_true, Bool.cond_false]
      refine ih _ ⟨by simp only; omega, by simp only; omega, by simp only; omega, h4, ?_⟩ (by simp only; omega)
      intro q hq1 hq2
      simp only at hq1
      exact hf ((i + j) / 2) q (by omega) hq1 hq2 hf'
  · simp only [hij, decide_false, Bool.cond_false]
    have e : i = j := by omega
    subst e
    exact ⟨h1, h3, h4, h5⟩
section
variable {m : gMine} {arr : List Int} {blocked : Int} {c : gCrew} {start : Int} {exits : List Int}
theorem rtE (hm : MineIn m) (hc : CrewIn m c) (hs : 0 ≤ start ∧ start ≤ 36000) (he : m_spec_l00Rises exits 0 (IntKind.wrap .i64 (m.Junctions - 1)) = true) : ∀ y ∈ exits, 0 ≤ y ∧ y < (m_spec_l19Times m arr blocked c start).length := by
  have hT := (times_SmB (arr := arr) (blocked := blocked) hm hc hs).1
  have hJ := hm.1
  intro y hy
  have := rises_imp he y hy
  rw [wr64 (n := m.Junctions - 1) (by omega)] at this
  omega
theorem escR (h : (m_impl_escapeOf m arr blocked [c] start exits).2.1 = 0) : (MineIn m ∧ CrewIn m c ∧ 0 ≤ start ∧ start ≤ 36000) ∧ m_spec_l00Rises exits 0 (IntKind.wrap .i64 (m.Junctions - 1)) = true ∧ m_impl_escape_times (m_impl_escapeOf m arr blocked [c] start exits).1 c start = m_spec_l19Times m arr blocked c start := by
  have hE := (escapeOf_imp h).1
  have hM := escapeOf_impM h
  have hC := escapeOf_impC h
  have hS := escapeOf_impS h
  have hj : m_impl_Mine_hasJunctions m exits = m_spec_l00Rises exits 0 (IntKind.wrap .i64 (m.Junctions - 1)) := rises_eq exits _
  rw [hE] at hM hC ⊢
  exact ⟨⟨hM, hC, hS⟩, by rw [← hj]; exact (escapeOf_imp h).2.2.2.2, times_eq hM hC hS⟩
theorem exits_in (hm : MineIn m) (h : m_spec_l00Rises exits 0 (IntKind.wrap .i64 (m.Junctions - 1)) = true) : ∀ y ∈ exits, 0 ≤ y ∧ y < m.Junctions := by
  have hJ := hm.1
  intro y hy
  have := rises_imp h y hy
  rw [wr64 (n := m.Junctions - 1) (by omega)] at this
  omega
theorem tm_len {e : gescape} (hm : MineIn e.mine) (hc : CrewIn e.mine c) (hs : 0 ≤ start ∧ start ≤ 36000) : ((m_impl_escape_times e c start).length : Int) = e.mine.Junctions := by
  obtain ⟨a, b, d⟩ := e
  rw [times_eq hm hc hs]; exact (times_SmB (arr := b) (blocked := d) hm hc hs).1
theorem tm_in {e : gescape} {xs : List Int} (hm : MineIn e.mine) (hc : CrewIn e.mine c) (hs : 0 ≤ start ∧ start ≤ 36000) (h : ∀ y ∈ xs, 0 ≤ y ∧ y < e.mine.Junctions) : ∀ y ∈ xs, 0 ≤ y ∧ y < (m_impl_escape_times e c start).length := by
  have := tm_len hm hc hs
  intro y hy; have := h y hy; omega
theorem lsE (h : (m_impl_escapeOf m arr blocked [c] start exits).2.1 = 0) : ∀ y ∈ exits, 0 ≤ y ∧ y < (m_impl_escapeOf m arr blocked [c] start exits).1.mine.Junctions := by
  have g := escR h
  rw [(escapeOf_imp h).1]; exact exits_in g.1.1 g.2.1
end

end Go.Proofs.Ytlbpjgeoaiiamaa
