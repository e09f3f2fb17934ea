/-
  PLAIN LAWS about the models: no program in sight. Conditions: as each theorem states them.
-/
import Derived.Test.YthcboapohklfnaaExactEscapeRoutePlain13
set_option linter.unusedVariables false
set_option linter.unusedSimpArgs false
set_option linter.unusedSectionVars false
set_option linter.unnecessarySimpa false
namespace Go.Proofs.Ythcboapohklfnaa
open Go Go.RowKit Go.Proofs Go.Proofs.Ythcboapohklfnaa.E
/-! ## EscapeRoute -/
theorem rev_eq (l : List Int) : m_slices_Reverse_int64 l = l.reverse := by
  simp only [m_slices_Reverse_int64]
  refine LOOP_post (fun (x : List Int × Int × Int) => (x.1.length = l.length ∧ 0 ≤ x.2.1 ∧ x.2.1 + x.2.2 = (l.length : Int) - 1 ∧ x.2.1 ≤ x.2.2 + 1) ∧ ∀ k : Int, 0 ≤ k → k < l.length → at' x.1 k = if k < x.2.1 ∨ x.2.2 < k then at' l ((l.length : Int) - 1 - k) else at' l k) (fun x => (x.2.2 + 1 - x.2.1).toNat) (fun _ (r : List Int) => r = l.reverse) ?_ _ _ ⟨by dsimp only; omega, fun k h0 h1 => ?_⟩ (by dsimp only; omega)
  · rintro rec ⟨a, i, j⟩ ⟨⟨h0, h1, h2, h3⟩, hI⟩ ih
    dsimp only at h0 h1 h2 h3 hI ih ⊢
    simp only [m_slices_Reverse_int64_b1]
    by_cases hij : i < j
    · simp only [hij, decide_true, Bool.cond_true]
      refine ih _ ⟨⟨by simp only [put_len]; exact h0, by dsimp only; omega, by dsimp only; omega, by dsimp only; omega⟩, fun k hk0 hk1 => ?_⟩ (by dsimp only; omega)
      dsimp only
      by_cases hkj : k = j
      · subst hkj
        rw [put_at ⟨by omega, by rw [put_len]; omega⟩, hI i h1 (by omega), if_neg (by omega), if_pos (by omega)]
        congr 1; omega
      · rw [put_at_ne (by omega) hk0 (fun e => hkj e.symm)]
        by_cases hki : k = i
        · subst hki
          rw [put_at ⟨h1, by omega⟩, hI j (by omega) (by omega), if_neg (by omega), if_pos (by omega)]
          congr 1; omega
        · rw [put_at_ne h1 hk0 (fun e => hki e.symm), hI k hk0 hk1]
          by_cases hc : k < i ∨ j < k
          · rw [if_pos hc, if_pos (by omega)]
          · rw [if_neg hc, if_neg (by omega)]
    · simp only [hij, decide_false, Bool.cond_false]
      apply List.ext_getElem (by simp; exact h0)
      intro k hk1 hk2
      have h4 := hI (k : Int) (by omega) (by omega)
      rw [List.getElem_reverse]
      have e1 : at' a (k : Int) = a[k] := by simp [at', hk1]
      have e2 : ∀ q : Nat, (hq : q < l.length) → at' l (q : Int) = l[q] := fun q hq => by simp [at', hq]
      rw [← e1, h4, ← e2 (l.length - 1 - k) (by omega)]
      split
      · congr 1; omega
      · congr 1; omega
  · dsimp only
    rw [if_neg (by omega)]
/-! ### Going back -/
theorem loop_first {ρ : Type} {b : (Int → ρ) → (Int → ρ) → Int → ρ} {k : Int → ρ} (p : Int → Bool) (hb : ∀ rec i, b rec k i = bif p i then k i else rec (i + 1)) {n : Int} (hn : p n = true) : ∀ (f : Nat) (i : Int), i ≤ n → (∀ q, i ≤ q → q < n → p q = false) → (n - i).toNat < f → LOOP b k f i = k n
  | 0, _, _, _, h => by omega
  | f + 1, i, h0, h1, h2 => by
    simp only [LOOP]
    rw [hb]
    by_cases h : i = n
    · subst h; rw [hn]; rfl
    · rw [h1 i (by omega) (by omega)]
      exact loop_first p hb hn f (i + 1) (by omega) (fun q hq => h1 q (by omega)) (by omega)
theorem least_is {low high : Int} {has : Int → Bool} {n : Int} (hn : has n = true) (hlo : low ≤ n) (hh : n ≤ high) (h1 : ∀ q, low ≤ q → q < n → has q = false) : m_impl_least low high has = (n, true) := by
  have h : ∀ (f : Nat) (i : Int), low ≤ i → i ≤ n → (n - i).toNat < f → LOOP (m_impl_least_b1 low high has) (fun (x1 : Int) => ((0 : Int), false)) f i = (n, true) := by
    intro f
    induction f with
    | zero => intro i _ _ h; omega
    | succ f ih =>
      intro i h0 h2 h3
      simp only [LOOP, m_impl_least_b1]
      have hi : i ≤ high := by omega
      simp only [hi, decide_true, Bool.cond_true]
      by_cases he : i = n
      · subst he; rw [hn]; rfl
      · rw [h1 i h0 (by omega)]
        exact ih (i + 1) (by omega) (by omega) (by omega)
  exact h _ low (by omega) hlo (by omega)
theorem first_of {p : Int → Bool} {J : Int} (h : ∃ n, 0 ≤ n ∧ n < J ∧ p n = true) : ∃ n, 0 ≤ n ∧ n < J ∧ p n = true ∧ ∀ q, 0 ≤ q → q < n → p q = false := by
  obtain ⟨n, h0, h1, h2⟩ := h
  have key : ∀ (k : Nat) (n : Int), n.toNat = k → 0 ≤ n → n < J → p n = true → ∃ n, 0 ≤ n ∧ n < J ∧ p n = true ∧ ∀ q, 0 ≤ q → q < n → p q = false := by
    intro k
    induction k using Nat.strongRecOn with
    | ind k ih =>
      intro n hk h0 h1 h2
      by_cases hex : ∃ q, 0 ≤ q ∧ q < n ∧ p q = true
      · obtain ⟨q, hq0, hq1, hq2⟩ := hex
        exact ih q.toNat (by omega) q rfl hq0 (by omega) hq2
      · refine ⟨n, h0, h1, h2, fun q hq0 hq1 => ?_⟩
        rw [← Bool.not_eq_true]
        exact fun hp => hex ⟨q, hq0, hq1, hp⟩
  exact key _ n rfl h0 h1 h2
section
variable {m : gMine} {arr : List Int} {blocked : Int} {c : gCrew} {start : Int}
/-- n comes just ahead of j on a way -/
def Ahead (m : gMine) (arr : List Int) (blocked : Int) (c : gCrew) (start j n : Int) : Bool := ((decide (0 ≤ (m_spec_l19Step m blocked c.Speed n j))) && (decide (0 ≤ (at' (m_spec_l19Times m arr blocked c start) n)))) && ((IntKind.wrap .i64 ((at' (m_spec_l19Times m arr blocked c start) n) + (m_spec_l19Step m blocked c.Speed n j))) == (at' (m_spec_l19Times m arr blocked c start) j))
theorem ahead_lt (hm : MineIn m) (hc : CrewIn m c) (hs : 0 ≤ start ∧ start ≤ 36000) {j n : Int} (hn : 0 ≤ n ∧ n < m.Junctions) (h : Ahead m arr blocked c start j n = true) : 0 ≤ at' (m_spec_l19Times m arr blocked c start) n ∧ at' (m_spec_l19Times m arr blocked c start) n < at' (m_spec_l19Times m arr blocked c start) j := by
  simp only [Ahead, Bool.and_eq_true, decide_eq_true_eq, beq_iff_eq] at h
  obtain ⟨⟨h1, h2⟩, h3⟩ := h
  have hb := (times_SmB (arr := arr) (blocked := blocked) hm hc hs).hi hm.1.2 hn.1 hn.2
  rcases step_is hm blocked hc.2 n j with ⟨g1, _⟩ | ⟨k, g1, g2, _⟩
  · omega
  · have hw := walk_rng (hm.at g1.1) hc.2
    have hp := walk_pos (hm.at g1.1) hc.2
    have e : cwW m c.Speed k = m_impl_Airway_walkTime (at' m.Airways k) c.Speed := rfl
    rw [g2, e, wr64 (by omega)] at h3
    omega
theorem ahead_some (hm : MineIn m) (hc : CrewIn m c) (hs : 0 ≤ start ∧ start ≤ 36000) {j : Int} (hj : 0 ≤ j ∧ j < m.Junctions) (hjc : j ≠ c.Junction) (hr : 0 ≤ at' (m_spec_l19Times m arr blocked c start) j) : ∃ n, 0 ≤ n ∧ n < m.Junctions ∧ Ahead m arr blocked c start j n = true := by
  have hB := times_SmB (arr := arr) (blocked := blocked) hm hc hs
  have hok := cwEs_n hm blocked hc.2
  have hT := specTimes_is (arr := arr) (blocked := blocked) hm hc hs
  cases hsf : cwSafe arr c.Junction start with
  | false =>
    rw [hsf] at hT
    simp only [Bool.not_false, Bool.cond_true] at hT
    rw [hT, at_rep hj.1 (by omega)] at hr; omega
  | true =>
    rw [hsf] at hT
    simp only [Bool.not_true, Bool.cond_false] at hT
    obtain ⟨hS, hfix⟩ := cw_enough hm arr blocked hc hs
    have h0 : Prd m.Junctions c.Junction (cwEs m blocked c.Speed) (cwSafe arr) (cwStart m c start) := fun v hv0 hvJ hvs hv => by
      rw [cwStart, put_at_ne hc.1.1 hv0 (fun e => hvs e.symm), at_rep hv0 (by omega)] at hv; omega
    have h1 := swps_prd hok m.Junctions.toNat hS.1 h0
    have hl : ((swps (cwSafe arr) (cwEs m blocked c.Speed) m.Junctions.toNat (cwStart m c start)).length : Int) = m.Junctions := by rw [← hT]; exact hB.1
    rw [← hT] at h1 hfix hl
    obtain ⟨e, he, g1, g2, g3, g4⟩ := prd_eq hok (cwSafe_mono arr) hl hfix h1 hj.1 hj.2 hjc hr
    obtain ⟨k, hk, hkw⟩ := mem_cwEs.1 he
    have hu := (hok e he).1
    refine ⟨e.1, hu.1, hu.2, ?_⟩
    have hst : m_spec_l19Step m blocked c.Speed e.1 j = e.2.2 := by
      rw [g1] at hk
      rcases step_is hm blocked hc.2 e.1 j with ⟨_, q2⟩ | ⟨k', q1, q2, q3⟩
      · exact absurd hk (q2 k)
      · have h5 := q3 k hk
        have h6 := g4 (e.1, j, cwW m c.Speed k') (mem_cwEs.2 ⟨k', q1, rfl⟩) rfl rfl
        dsimp only at h6
        omega
    have hw := (hok e he).2.2.2
    have hb := hB.hi hm.1.2 hj.1 hj.2
    simp only [Ahead, Bool.and_eq_true, decide_eq_true_eq, beq_iff_eq, hst]
    exact ⟨⟨hw, g2⟩, by rw [wr64 (by omega)]; exact g3⟩
theorem exit_in {times exits : List Int} {J : Int} (h : ∀ y ∈ exits, 0 ≤ y ∧ y < J) : m_spec_l19Exit times exits = -1 ∨ ((0 ≤ m_spec_l19Exit times exits ∧ m_spec_l19Exit times exits < J) ∧ 0 ≤ at' times (m_spec_l19Exit times exits)) := by
  simp only [m_spec_l19Exit]
  refine LOOP_post (fun (x : Int × Int) => (0 ≤ x.2 ∧ x.2 ≤ exits.length) ∧ (x.1 = -1 ∨ ((0 ≤ x.1 ∧ x.1 < J) ∧ 0 ≤ at' times x.1))) (fun x => ((exits.length : Int) - x.2).toNat) (fun _ (r : Int) => r = -1 ∨ ((0 ≤ r ∧ r < J) ∧ 0 ≤ at' times r)) ?_ _ _ ⟨by dsimp only; omega, .inl rfl⟩ (by dsimp only; omega)
  rintro rec ⟨a, i⟩ ⟨hr, hI⟩ ih
  dsimp only at hr hI ih ⊢
  simp only [m_spec_l19Exit_b1]
  by_cases hi : i < exits.length
  · simp only [hi, decide_true, Bool.cond_true]
    cases hc : (decide (0 ≤ (at' times (at' exits i)))) && ((decide (a < 0)) || (decide ((at' times (at' exits i)) < (at' times a)))) with
    | true =>
      simp only [Bool.and_eq_true, decide_eq_true_eq] at hc
      exact ih _ ⟨by dsimp only; omega, .inr ⟨at_all h ⟨hr.1, hi⟩, hc.1⟩⟩ (by dsimp only; omega)
    | false => exact ih _ ⟨by dsimp only; omega, hI⟩ (by dsimp only; omega)
  · simp only [hi, decide_false, Bool.cond_false]; exact hI
end
theorem escapeOfE (m : gMine) (arr : List Int) (blocked : Int) (c : gCrew) (start : Int) (exits : List Int) : (m_impl_escapeOf m arr blocked [c] start exits).2.1 = (bif m_spec_l19Ask m arr blocked c start != 0 then m_spec_l19Ask m arr blocked c start else bif !(m_spec_l00Rises exits 0 (IntKind.wrap .i64 (m.Junctions - 1))) then 7 else 0) ∧ ((m_impl_escapeOf m arr blocked [c] start exits).2.1 = 0 → (m_impl_escapeOf m arr blocked [c] start exits).1 = gescape.mk m arr blocked) := by
  refine ⟨?_, fun h => (escapeOf_imp h).1⟩
  have hj : m_impl_Mine_hasJunctions m exits = m_spec_l00Rises exits 0 (IntKind.wrap .i64 (m.Junctions - 1)) := rises_eq exits _
  simp only [m_impl_escapeOf, m_spec_l19Ask, crews1_eq, l19Arr_eq, within_eq, m_spec_l17Time, hj]
  cases m_spec_l04Ok m <;> cases m_spec_l19One c <;> cases decide (m.Junctions ≤ c.Junction) <;> cases m_spec_l00In blocked (-1) ((m.Airways.length : Int) - 1) <;> cases m_spec_l00In start 0 36000 <;> cases hl : ((arr.length : Int) == m.Junctions) <;> cases m_impl_allWithin arr (-1) 1000000000000 <;> cases m_spec_l00Rises exits 0 (IntKind.wrap .i64 (m.Junctions - 1)) <;> simp [bne, hl]
theorem EscapeRoute_eq (m : gMine) (arr : List Int) (blocked : Int) (c : gCrew) (start : Int) (exits : List Int) : m_impl_EscapeRoute m arr blocked c start exits = m_spec_EscapeRoute m arr blocked c start exits := by
  obtain ⟨h1, h2⟩ := escapeOfE m arr blocked c start exits
  simp only [m_impl_EscapeRoute, m_spec_EscapeRoute]
  cases hc : (m_spec_l19Ask m arr blocked c start != 0) with
  | true =>
    rw [hc] at h1
    simp only [Bool.cond_true] at h1
    simp only [h1, hc, Bool.cond_true]
  | false =>
    rw [hc] at h1
    have h0 : m_spec_l19Ask m arr blocked c start = 0 := by simpa using hc
    have hi := l19Ask_imp h0
    have hm := hi.1
    have hJ := hm.1
    cases hr : m_spec_l00Rises exits 0 (IntKind.wrap .i64 (m.Junctions - 1)) with
    | false => rw [hr] at h1; simp only [h1]; rfl
    | true =>
      rw [hr] at h1
      simp only [Bool.not_true, Bool.cond_false] at h1 ⊢
      have hE := h2 h1
      have hb : ((m_impl_escapeOf m arr blocked [c] start exits).2.1 != 0) = false := by rw [h1]; rfl
      have hf : ∀ t x, m_impl_firstReached t x = m_spec_l19Exit t x := fun _ _ => rfl
      have hT : m_impl_escape_times (m_impl_escapeOf m arr blocked [c] start exits).1 c start = m_spec_l19Times m arr blocked c start := by rw [hE, times_eq hm hi.2.1 hi.2.2.1]
      simp only [hb, Bool.cond_false, hT, hf]
      have hex := exit_in (times := m_spec_l19Times m arr blocked c start) (exits := exits) (J := m.Junctions) (fun y hy => by
        have := rises_imp hr y hy
        rw [wr64 (n := m.Junctions - 1) (by omega)] at this
        omega)
      by_cases hneg : m_spec_l19Exit (m_spec_l19Times m arr blocked c start) exits < 0
      · simp only [hneg, decide_true, Bool.cond_true]
      · simp only [hneg, decide_false, Bool.cond_false]
        have hex := hex.resolve_left (by omega)
        have hB := times_SmB (arr := arr) (blocked := blocked) hm hi.2.1 hi.2.2.1
        have hbb := hB.hi hJ.2 hex.1.1 hex.1.2
        refine LOOP_sim (fun (x : List Int × Int) (y : Int × List Int) => x.2 = y.1 ∧ y.2 = x.1.reverse ∧ (0 ≤ y.1 ∧ y.1 < m.Junctions) ∧ 0 ≤ at' (m_spec_l19Times m arr blocked c start) y.1) (fun x => rank (m_spec_l19Times m arr blocked c start) m.Junctions x.2) (fun y => rank (m_spec_l19Times m arr blocked c start) m.Junctions y.1) ?_ _ _ _ _ ⟨rfl, rfl, hex.1, hex.2⟩ (Nat.lt_succ_of_le (rank_le _ _ _)) (Nat.lt_succ_of_le (rank_le _ _ _))
        rintro rec₁ rec₂ ⟨xs, j⟩ ⟨j', ys⟩ ⟨hj, hy, hjr, hjt⟩ ih
        dsimp only at hj hy hjr hjt ih
        subst hj hy
        simp only [m_impl_EscapeRoute_b1, m_spec_EscapeRoute_b1]
        by_cases hjc : j = c.Junction
        · have e : (j != c.Junction) = false := by simpa using hjc
          simp only [e, Bool.cond_false, rev_eq]
        · have e : (j != c.Junction) = true := by simpa using hjc
          simp only [e, Bool.cond_true]
          obtain ⟨n, hn0, hn1, hn2, hn3⟩ := first_of (ahead_some hm hi.2.1 hi.2.2.1 hjr hjc hjt)
          have hlt := ahead_lt hm hi.2.1 hi.2.2.1 ⟨hn0, hn1⟩ hn2
          have hhas : (fun (a0 : Int) => m_impl_EscapeRoute_1 a0 (m_impl_escapeOf m arr blocked [c] start exits).1 j c (m_spec_l19Times m arr blocked c start)) = Ahead m arr blocked c start j := by
            funext a0
            simp only [m_impl_EscapeRoute_1, hE, between_eq (e := gescape.mk m arr blocked) hm, Ahead]
          have hl : m_impl_least 0 (IntKind.wrap .i64 (m.Junctions - 1)) (fun (a0 : Int) => m_impl_EscapeRoute_1 a0 (m_impl_escapeOf m arr blocked [c] start exits).1 j c (m_spec_l19Times m arr blocked c start)) = (n, true) := by
            rw [hhas]
            exact least_is hn2 hn0 (by rw [wr64 (n := m.Junctions - 1) (by omega)]; omega) hn3
          have hs2 := loop_first (b := m_spec_EscapeRoute_b2 m arr blocked c start exits rec₂ (fun (x1 : Int × (List Int)) => (x1.2, at' (m_spec_l19Times m arr blocked c start) (m_spec_l19Exit (m_spec_l19Times m arr blocked c start) exits), (0 : Int))) (j, xs.reverse)) (k := fun (x2 : Int) => rec₂ (x2, ([x2] : List Int) ++ xs.reverse)) (Ahead m arr blocked c start j) (fun rec i => rfl) hn2 (m.Junctions.toNat + 1) 0 hn0 hn3 (by omega)
          rw [hT, hl, hs2]
          exact ih _ _ ⟨rfl, by simp, ⟨hn0, hn1⟩, hlt.1⟩ (rank_lt ⟨hn0, hn1⟩ hlt.2) (rank_lt ⟨hn0, hn1⟩ hlt.2)
theorem EscapeRoute_len (m : gMine) (arr : List Int) (blocked : Int) (c : gCrew) (start : Int) (exits : List Int) : (m_spec_EscapeRoute m arr blocked c start exits).1.length ≤ 1048576 := by
  simp only [m_spec_EscapeRoute]
  cases hc : (m_spec_l19Ask m arr blocked c start != 0) with
  | true => simp
  | false =>
    have hi := l19Ask_imp (by simpa using hc)
    have hm := hi.1
    have hJ := hm.1
    cases hr : m_spec_l00Rises exits 0 (IntKind.wrap .i64 (m.Junctions - 1)) with
    | false => simp
    | true =>
      simp only [Bool.not_true, Bool.cond_false]
      have hex := exit_in (times := m_spec_l19Times m arr blocked c start) (exits := exits) (J := m.Junctions) (fun y hy => by
        have := rises_imp hr y hy
        rw [wr64 (n := m.Junctions - 1) (by omega)] at this
        omega)
      by_cases hneg : m_spec_l19Exit (m_spec_l19Times m arr blocked c start) exits < 0
      · simp [hneg]
      · simp only [hneg, decide_false, Bool.cond_false]
        have hex := hex.resolve_left (by omega)
        have hrk := rank_le (m_spec_l19Times m arr blocked c start) m.Junctions (m_spec_l19Exit (m_spec_l19Times m arr blocked c start) exits)
        refine LOOP_post (fun (y : Int × List Int) => ((0 ≤ y.1 ∧ y.1 < m.Junctions) ∧ 0 ≤ at' (m_spec_l19Times m arr blocked c start) y.1) ∧ y.2.length + rank (m_spec_l19Times m arr blocked c start) m.Junctions y.1 ≤ 17) (fun y => rank (m_spec_l19Times m arr blocked c start) m.Junctions y.1) (fun _ (r : List Int × Int × Int) => r.1.length ≤ 1048576) ?_ _ _ ⟨hex, by simp only [List.length_cons, List.length_nil]; omega⟩ (Nat.lt_succ_of_le hrk)
        rintro rec ⟨j, ys⟩ ⟨⟨hjr, hjt⟩, hn⟩ ih
        dsimp only at hjr hjt hn ih ⊢
        simp only [m_spec_EscapeRoute_b1]
        by_cases hjc : j = c.Junction
        · have e : (j != c.Junction) = false := by simpa using hjc
          simp only [e, Bool.cond_false]; omega
        · have e : (j != c.Junction) = true := by simpa using hjc
          simp only [e, Bool.cond_true]
          obtain ⟨n, hn0, hn1, hn2, hn3⟩ := first_of (ahead_some hm hi.2.1 hi.2.2.1 hjr hjc hjt)
          have hlt := ahead_lt hm hi.2.1 hi.2.2.1 ⟨hn0, hn1⟩ hn2
          have hrl := rank_lt (J := m.Junctions) ⟨hn0, hn1⟩ hlt.2
          have hs2 := loop_first (b := m_spec_EscapeRoute_b2 m arr blocked c start exits rec (fun (x1 : Int × (List Int)) => (x1.2, at' (m_spec_l19Times m arr blocked c start) (m_spec_l19Exit (m_spec_l19Times m arr blocked c start) exits), (0 : Int))) (j, ys)) (k := fun (x2 : Int) => rec (x2, ([x2] : List Int) ++ ys)) (Ahead m arr blocked c start j) (fun rec i => rfl) hn2 (m.Junctions.toNat + 1) 0 hn0 hn3 (by omega)
          rw [hs2]
          exact ih _ ⟨⟨⟨hn0, hn1⟩, hlt.1⟩, by simp only [List.length_append, List.length_cons, List.length_nil]; omega⟩ hrl
/-! ### What the walk asks -/
def RtI (T : List Int) (J : Int) (len : Nat) (j : Int) : Prop := ((0 ≤ j ∧ j < J) ∧ 0 ≤ at' T j) ∧ len + rank T J j ≤ 17
theorem rt_start {times exits : List Int} {J : Int} (hJ : J ≤ 16) (h : ∀ y ∈ exits, 0 ≤ y ∧ y < J) (hn : 0 ≤ m_spec_l19Exit times exits) : RtI times J 1 (m_spec_l19Exit times exits) := by
  have h1 := (exit_in (times := times) h).resolve_left (by omega)
  have := rank_le times J (m_spec_l19Exit times exits)
  exact ⟨h1, by omega⟩
theorem rev_len (l : List Int) : (m_slices_Reverse_int64 l).length = l.length := by rw [rev_eq]; simp
section
variable {m : gMine} {arr : List Int} {blocked : Int} {c : gCrew} {start : Int} {exits : List Int}
theorem rtE (hm : MineIn m) (hc : CrewIn m c) (hs : 0 ≤ start ∧ start ≤ 36000) (he : m_spec_l00Rises exits 0 (IntKind.wrap .i64 (m.Junctions - 1)) = true) : ∀ y ∈ exits, 0 ≤ y ∧ y < (m_spec_l19Times m arr blocked c start).length := by
  have := (times_SmB (arr := arr) (blocked := blocked) hm hc hs).1
  have hJ := hm.1
  intro y hy
  have := rises_imp he y hy
  rw [wr64 (n := m.Junctions - 1) (by omega)] at this
  omega
theorem rtS (hm : MineIn m) (hc : CrewIn m c) (hs : 0 ≤ start ∧ start ≤ 36000) (he : m_spec_l00Rises exits 0 (IntKind.wrap .i64 (m.Junctions - 1)) = true) (hn : 0 ≤ m_spec_l19Exit (m_spec_l19Times m arr blocked c start) exits) : RtI (m_spec_l19Times m arr blocked c start) m.Junctions 1 (m_spec_l19Exit (m_spec_l19Times m arr blocked c start) exits) := by
  have h := rtE (arr := arr) (blocked := blocked) hm hc hs he
  rw [(times_SmB (arr := arr) (blocked := blocked) hm hc hs).1] at h
  exact rt_start hm.1.2 h hn
theorem rtL (hm : MineIn m) (hc : CrewIn m c) (hs : 0 ≤ start ∧ start ≤ 36000) : ((m_spec_l19Times m arr blocked c start).length : Int) = m.Junctions := (times_SmB (arr := arr) (blocked := blocked) hm hc hs).1
theorem rt_next (hm : MineIn m) (hc : CrewIn m c) (hs : 0 ≤ start ∧ start ≤ 36000) {len : Nat} {j n : Int} (h : RtI (m_spec_l19Times m arr blocked c start) m.Junctions len j) (hn : 0 ≤ n ∧ n < m.Junctions) (hA : Ahead m arr blocked c start j n = true) : RtI (m_spec_l19Times m arr blocked c start) m.Junctions (len + 1) n ∧ rank (m_spec_l19Times m arr blocked c start) m.Junctions n < rank (m_spec_l19Times m arr blocked c start) m.Junctions j := by
  have hlt := ahead_lt hm hc hs hn hA
  have hr := rank_lt (J := m.Junctions) hn hlt.2
  have := h.2
  exact ⟨⟨⟨hn, hlt.1⟩, by omega⟩, hr⟩
def WayOn (m : gMine) (arr : List Int) (blocked : Int) (c : gCrew) (start j x : Int) : Prop := (0 ≤ x ∧ x < m.Junctions) ∧ ∃ n, x ≤ n ∧ n < m.Junctions ∧ Ahead m arr blocked c start j n = true
theorem way_start (hm : MineIn m) (hc : CrewIn m c) (hs : 0 ≤ start ∧ start ≤ 36000) {len : Nat} {j : Int} (hj : ¬ j = c.Junction) (h : RtI (m_spec_l19Times m arr blocked c start) m.Junctions len j) : WayOn m arr blocked c start j 0 := by
  obtain ⟨n, h0, h1, h2⟩ := ahead_some hm hc hs h.1.1 hj h.1.2
  exact ⟨⟨by omega, by omega⟩, n, h0, h1, h2⟩
theorem way_next {j x : Int} (h : WayOn m arr blocked c start j x) (hn : (m_spec_l19Step m blocked c.Speed x j < 0 ∨ at' (m_spec_l19Times m arr blocked c start) x < 0) ∨ ¬ IntKind.wrap .i64 (at' (m_spec_l19Times m arr blocked c start) x + m_spec_l19Step m blocked c.Speed x j) = at' (m_spec_l19Times m arr blocked c start) j) : WayOn m arr blocked c start j (x + 1) := by
  obtain ⟨hx, n, h0, h1, h2⟩ := h
  have hne : ¬ x = n := by
    rintro rfl
    simp only [Ahead, Bool.and_eq_true, decide_eq_true_eq, beq_iff_eq] at h2
    rcases hn with (hn | hn) | hn
    · omega
    · omega
    · exact hn h2.2
  exact ⟨⟨by omega, by omega⟩, n, by omega, h1, h2⟩
theorem way_end {j x : Int} {len : Nat} (hm : MineIn m) (hc : CrewIn m c) (hs : 0 ≤ start ∧ start ≤ 36000) (h : RtI (m_spec_l19Times m arr blocked c start) m.Junctions len j) (hw : 0 ≤ x ∧ x < m.Junctions) (hn : (0 ≤ m_spec_l19Step m blocked c.Speed x j ∧ 0 ≤ at' (m_spec_l19Times m arr blocked c start) x) ∧ IntKind.wrap .i64 (at' (m_spec_l19Times m arr blocked c start) x + m_spec_l19Step m blocked c.Speed x j) = at' (m_spec_l19Times m arr blocked c start) j) : RtI (m_spec_l19Times m arr blocked c start) m.Junctions (len + 1) x ∧ rank (m_spec_l19Times m arr blocked c start) m.Junctions x < rank (m_spec_l19Times m arr blocked c start) m.Junctions j :=
  rt_next hm hc hs h hw (by simp only [Ahead, Bool.and_eq_true, decide_eq_true_eq, beq_iff_eq]; exact hn)
theorem escR (h : (m_impl_escapeOf m arr blocked [c] start exits).2.1 = 0) : (MineIn m ∧ CrewIn m c ∧ 0 ≤ start ∧ start ≤ 36000) ∧ m_spec_l00Rises exits 0 (IntKind.wrap .i64 (m.Junctions - 1)) = true ∧ m_impl_escape_times (m_impl_escapeOf m arr blocked [c] start exits).1 c start = m_spec_l19Times m arr blocked c start := by
  have hE := (escapeOf_imp h).1
  have hM := escapeOf_impM h
  have hC := escapeOf_impC h
  have hS := escapeOf_impS h
  have hj : m_impl_Mine_hasJunctions m exits = m_spec_l00Rises exits 0 (IntKind.wrap .i64 (m.Junctions - 1)) := rises_eq exits _
  rw [hE] at hM hC ⊢
  exact ⟨⟨hM, hC, hS⟩, by rw [← hj]; exact (escapeOf_imp h).2.2.2.2, times_eq hM hC hS⟩
theorem escR_M (h : (m_impl_escapeOf m arr blocked [c] start exits).2.1 = 0) : MineIn m := (escR h).1.1
theorem escR_J (h : (m_impl_escapeOf m arr blocked [c] start exits).2.1 = 0) : 1 ≤ m.Junctions ∧ m.Junctions ≤ 16 := (escR h).1.1.1
theorem escR_C (h : (m_impl_escapeOf m arr blocked [c] start exits).2.1 = 0) : 10 ≤ c.Speed ∧ c.Speed ≤ 300 := (escR h).1.2.1.2
theorem escR_T (h : (m_impl_escapeOf m arr blocked [c] start exits).2.1 = 0) : ((m_impl_escape_times (m_impl_escapeOf m arr blocked [c] start exits).1 c start).length : Int) = m.Junctions := by
  rw [(escR h).2.2]; exact rtL (escR h).1.1 (escR h).1.2.1 (escR h).1.2.2
theorem escR_E (h : (m_impl_escapeOf m arr blocked [c] start exits).2.1 = 0) : ∀ y ∈ exits, 0 ≤ y ∧ y < (m_impl_escape_times (m_impl_escapeOf m arr blocked [c] start exits).1 c start).length := by
  rw [(escR h).2.2]; exact rtE (escR h).1.1 (escR h).1.2.1 (escR h).1.2.2 (escR h).2.1
theorem escR_S (h : (m_impl_escapeOf m arr blocked [c] start exits).2.1 = 0) (hn : 0 ≤ m_impl_firstReached (m_impl_escape_times (m_impl_escapeOf m arr blocked [c] start exits).1 c start) exits) : RtI (m_impl_escape_times (m_impl_escapeOf m arr blocked [c] start exits).1 c start) m.Junctions 1 (m_impl_firstReached (m_impl_escape_times (m_impl_escapeOf m arr blocked [c] start exits).1 c start) exits) := by
  have hf : ∀ t x, m_impl_firstReached t x = m_spec_l19Exit t x := fun _ _ => rfl
  rw [(escR h).2.2, hf] at hn ⊢
  exact rtS (escR h).1.1 (escR h).1.2.1 (escR h).1.2.2 (escR h).2.1 hn
theorem escR_N (h : (m_impl_escapeOf m arr blocked [c] start exits).2.1 = 0) {len : Nat} {j : Int} (hj : ¬ j = c.Junction) (hI : RtI (m_impl_escape_times (m_impl_escapeOf m arr blocked [c] start exits).1 c start) m.Junctions len j) :
    RtI (m_impl_escape_times (m_impl_escapeOf m arr blocked [c] start exits).1 c start) m.Junctions (len + 1) (m_impl_least 0 (IntKind.wrap .i64 (m.Junctions - 1)) (fun (a0 : Int) => m_impl_EscapeRoute_1 a0 (m_impl_escapeOf m arr blocked [c] start exits).1 j c (m_impl_escape_times (m_impl_escapeOf m arr blocked [c] start exits).1 c start))).1 ∧
    rank (m_impl_escape_times (m_impl_escapeOf m arr blocked [c] start exits).1 c start) m.Junctions (m_impl_least 0 (IntKind.wrap .i64 (m.Junctions - 1)) (fun (a0 : Int) => m_impl_EscapeRoute_1 a0 (m_impl_escapeOf m arr blocked [c] start exits).1 j c (m_impl_escape_times (m_impl_escapeOf m arr blocked [c] start exits).1 c start))).1 < rank (m_impl_escape_times (m_impl_escapeOf m arr blocked [c] start exits).1 c start) m.Junctions j := by
  obtain ⟨⟨hm, hc, hs⟩, he, hT⟩ := escR h
  have hE := (escapeOf_imp h).1
  rw [hT] at hI ⊢
  have hJ := hm.1
  obtain ⟨n, hn0, hn1, hn2, hn3⟩ := first_of (ahead_some hm hc hs hI.1.1 hj hI.1.2)
  have hhas : (fun (a0 : Int) => m_impl_EscapeRoute_1 a0 (m_impl_escapeOf m arr blocked [c] start exits).1 j c (m_spec_l19Times m arr blocked c start)) = Ahead m arr blocked c start j := by
    funext a0
    simp only [m_impl_EscapeRoute_1, hE, between_eq (e := gescape.mk m arr blocked) hm, Ahead]
  rw [hhas, least_is hn2 hn0 (by rw [wr64 (n := m.Junctions - 1) (by omega)]; omega) hn3]
  exact rt_next hm hc hs hI ⟨hn0, hn1⟩ hn2
end

end Go.Proofs.Ythcboapohklfnaa
