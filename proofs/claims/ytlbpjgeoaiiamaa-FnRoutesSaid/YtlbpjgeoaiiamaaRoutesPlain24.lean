/-
  PLAIN LAWS about the models: no program in sight. Conditions: as each theorem states them.
-/
import Derived.Test.YtlbpjgeoaiiamaaRoutesPlain23
set_option linter.unusedVariables false
set_option linter.unusedSimpArgs false
set_option linter.unusedSectionVars false
set_option linter.unnecessarySimpa false
namespace Go.Proofs.Ytlbpjgeoaiiamaa
open Go Go.RowKit Go.Proofs Go.Proofs.Ytlbpjgeoaiiamaa.E
/-! ## The reference's route -/
theorem step_is {m : gMine} (hm : MineIn m) (blocked : Int) {speed : Int} (hs : 10 ≤ speed ∧ speed ≤ 300) (u v : Int) : (m_spec_l19Step m blocked speed u v = -1 ∧ ∀ k, ¬ Leads m blocked u v k) ∨ ∃ k, Leads m blocked u v k ∧ m_spec_l19Step m blocked speed u v = cwW m speed k ∧ ∀ k', Leads m blocked u v k' → cwW m speed k ≤ cwW m speed k' := by
  have hq : ∀ k : Int, 0 ≤ k → k < m.Airways.length → (((k == blocked) || ((((at' m.Airways k).From != u) || ((at' m.Airways k).To != v)) && (((at' m.Airways k).From != v) || ((at' m.Airways k).To != u)))) = false ↔ Leads m blocked u v k) := by
    intro k h0 h1
    simp only [Bool.or_eq_false_iff, Bool.and_eq_false_iff, bne_eq_false_iff_eq, beq_eq_false_iff_ne, ne_eq, Leads]
    constructor
    · rintro ⟨h2, h3⟩; exact ⟨⟨h0, h1⟩, h2, h3⟩
    · rintro ⟨_, h2, h3⟩; exact ⟨h2, h3⟩
  refine LOOP_post (fun (x : Int × Int) => (0 ≤ x.1 ∧ x.1 ≤ m.Airways.length) ∧ ((x.2 = -1 ∧ ∀ k, k < x.1 → ¬ Leads m blocked u v k) ∨ ∃ k, k < x.1 ∧ Leads m blocked u v k ∧ x.2 = cwW m speed k ∧ ∀ k', k' < x.1 → Leads m blocked u v k' → cwW m speed k ≤ cwW m speed k')) (fun x => ((m.Airways.length : Int) - x.1).toNat) (fun _ (r : Int) => (r = -1 ∧ ∀ k, ¬ Leads m blocked u v k) ∨ ∃ k, Leads m blocked u v k ∧ r = cwW m speed k ∧ ∀ k', Leads m blocked u v k' → cwW m speed k ≤ cwW m speed k') ?_ _ _ ⟨by dsimp only; omega, .inl ⟨rfl, fun k hk hl => by have := hl.1.1; dsimp only at hk; omega⟩⟩ (by dsimp only; omega)
  rintro rec ⟨i, b⟩ ⟨hr, hI⟩ ih
  dsimp only at hr hI ih ⊢
  simp only [m_spec_l19Step_b1]
  by_cases hi : i < m.Airways.length
  · simp only [hi, decide_true, Bool.cond_true]
    have hw := walk_rng (hm.at (i := i) ⟨hr.1, hi⟩) hs
    have hwe : m_spec_l19Walk (at' m.Airways i) speed = cwW m speed i := rfl
    have hlt : ∀ k, k < i + 1 → k < i ∨ k = i := fun k hk => by omega
    cases hc : (i == blocked) || ((((at' m.Airways i).From != u) || ((at' m.Airways i).To != v)) && (((at' m.Airways i).From != v) || ((at' m.Airways i).To != u))) with
    | true =>
      have hn : ¬ Leads m blocked u v i := fun hl => by have := (hq i hr.1 hi).2 hl; rw [hc] at this; simp at this
      simp only [Bool.cond_true]
      refine ih _ ⟨by dsimp only; omega, ?_⟩ (by dsimp only; omega)
      rcases hI with ⟨h1, h2⟩ | ⟨k, h1, h2, h3, h4⟩
      · refine .inl ⟨h1, fun k hk hl => ?_⟩
        rcases hlt k hk with h | h
        · exact h2 k h hl
        · subst h; exact hn hl
      · refine .inr ⟨k, by dsimp only; omega, h2, h3, fun k' hk' hl => ?_⟩
        rcases hlt k' hk' with h | h
        · exact h4 k' h hl
        · subst h; exact absurd hl hn
    | false =>
      have hl := (hq i hr.1 hi).1 hc
      simp only [Bool.cond_false, hwe]
      have hw' : 0 ≤ cwW m speed i := hw.1
      by_cases hb : b < 0 ∨ cwW m speed i < b
      · have hbb : (decide (b < 0) || decide (cwW m speed i < b)) = true := by simpa using hb
        rw [hbb]
        refine ih _ ⟨by dsimp only; omega, .inr ⟨i, by dsimp only; omega, hl, rfl, fun k' hk' hl' => ?_⟩⟩ (by dsimp only; omega)
        rcases hlt k' hk' with h | h
        · rcases hI with ⟨h1, h2⟩ | ⟨k, h1, h2, h3, h4⟩
          · exact absurd hl' (h2 k' h)
          · have := h4 k' h hl'
            have hk := walk_rng (hm.at h2.1) hs
            have hk' : 0 ≤ cwW m speed k := hk.1
            omega
        · subst h; omega
      · have hbb : (decide (b < 0) || decide (cwW m speed i < b)) = false := by simpa using hb
        rw [hbb]
        refine ih _ ⟨by dsimp only; omega, ?_⟩ (by dsimp only; omega)
        rcases hI with ⟨h1, h2⟩ | ⟨k, h1, h2, h3, h4⟩
        · omega
        · refine .inr ⟨k, by dsimp only; omega, h2, h3, fun k' hk' hl' => ?_⟩
          rcases hlt k' hk' with h | h
          · exact h4 k' h hl'
          · subst h; omega
  · simp only [hi, decide_false, Bool.cond_false]
    rcases hI with ⟨h1, h2⟩ | ⟨k, h1, h2, h3, h4⟩
    · exact .inl ⟨h1, fun k hl => h2 k (by have := hl.1.2; omega) hl⟩
    · exact .inr ⟨k, h2, h3, fun k' hl => h4 k' (by have := hl.1.2; omega) hl⟩
theorem filter_len_le {p q : Int → Bool} (h : ∀ v, p v = true → q v = true) : ∀ L : List Int, (L.filter p).length ≤ (L.filter q).length
  | [] => by simp
  | x :: L => by
    have ih := filter_len_le h L
    simp only [List.filter_cons]
    by_cases hp : p x = true
    · rw [if_pos hp, if_pos (h x hp)]; simp only [List.length_cons]; omega
    · rw [if_neg hp]
      by_cases hq : q x = true
      · rw [if_pos hq]; simp only [List.length_cons]; omega
      · rw [if_neg hq]; exact ih
theorem filter_len_lt {p q : Int → Bool} (h : ∀ v, p v = true → q v = true) {n : Int} (hp : ¬ p n = true) (hq : q n = true) : ∀ L : List Int, n ∈ L → (L.filter p).length < (L.filter q).length
  | [], hn => by simp at hn
  | x :: L, hn => by
    simp only [List.filter_cons]
    by_cases hx : n = x
    · subst hx
      rw [if_neg hp, if_pos hq]
      have := filter_len_le h L
      simp only [List.length_cons]; omega
    · have ih := filter_len_lt h hp hq L (by rcases List.mem_cons.1 hn with e | e; exact absurd e hx; exact e)
      by_cases hpx : p x = true
      · rw [if_pos hpx, if_pos (h x hpx)]; simp only [List.length_cons]; omega
      · rw [if_neg hpx]
        by_cases hqx : q x = true
        · rw [if_pos hqx]; simp only [List.length_cons]; omega
        · rw [if_neg hqx]; exact ih
def rank (T : List Int) (J j : Int) : Nat := ((irange 0 J.toNat).filter (fun v => decide (at' T v < at' T j))).length
theorem rank_lt {T : List Int} {J j n : Int} (hn : 0 ≤ n ∧ n < J) (h : at' T n < at' T j) : rank T J n < rank T J j :=
  filter_len_lt (fun v hv => by simp only [decide_eq_true_eq] at hv ⊢; omega) (n := n) (by simp) (by simpa using h) _ (mem_irange.2 (by omega))
theorem rank_le (T : List Int) (J j : Int) : rank T J j ≤ J.toNat := by
  have := List.length_filter_le (fun v => decide (at' T v < at' T j)) (irange 0 J.toNat)
  rw [irange_len] at this
  exact this
theorem first_of {p : Int → Bool} {J : Int} (h : ∃ n, 0 ≤ n ∧ n < J ∧ p n = true) : ∃ n, 0 ≤ n ∧ n < J ∧ p n = true ∧ ∀ q, 0 ≤ q → q < n → p q = false := by
  obtain ⟨n, h0, h1, h2⟩ := h
  have key : ∀ (k : Nat) (n : Int), n.toNat = k → 0 ≤ n → n < J → p n = true → ∃ n, 0 ≤ n ∧ n < J ∧ p n = true ∧ ∀ q, 0 ≤ q → q < n → p q = false := by
    intro k
    induction k using Nat.strongRecOn with
    | ind k ih =>
      intro n hk h0 h1 h2
      by_cases hex : ∃ q, 0 ≤ q ∧ q < n ∧ p q = true
      · obtain ⟨q, hq0, hq1, hq2⟩ := hex
        exact ih q.toNat (by omega) q rfl hq0 (by omega) hq2
      · refine ⟨n, h0, h1, h2, fun q hq0 hq1 => ?_⟩
        rw [← Bool.not_eq_true]
        exact fun hp => hex ⟨q, hq0, hq1, hp⟩
  exact key _ n rfl h0 h1 h2
section
variable {m : gMine} {arr : List Int} {blocked : Int} {c : gCrew} {start : Int}
/-- n comes just ahead of j on a way -/
def Ahead (m : gMine) (arr : List Int) (blocked : Int) (c : gCrew) (start j n : Int) : Bool := ((decide (0 ≤ (m_spec_l19Step m blocked c.Speed n j))) && (decide (0 ≤ (at' (m_spec_l19Times m arr blocked c start) n)))) && ((IntKind.wrap .i64 ((at' (m_spec_l19Times m arr blocked c start) n) + (m_spec_l19Step m blocked c.Speed n j))) == (at' (m_spec_l19Times m arr blocked c start) j))
theorem ahead_lt (hm : MineIn m) (hc : CrewIn m c) (hs : 0 ≤ start ∧ start ≤ 36000) {j n : Int} (hn : 0 ≤ n ∧ n < m.Junctions) (h : Ahead m arr blocked c start j n = true) : 0 ≤ at' (m_spec_l19Times m arr blocked c start) n ∧ at' (m_spec_l19Times m arr blocked c start) n < at' (m_spec_l19Times m arr blocked c start) j := by
  simp only [Ahead, Bool.and_eq_true, decide_eq_true_eq, beq_iff_eq] at h
  obtain ⟨⟨h1, h2⟩, h3⟩ := h
  have hb := (times_SmB (arr := arr) (blocked := blocked) hm hc hs).hi hm.1.2 hn.1 hn.2
  rcases step_is hm blocked hc.2 n j with ⟨g1, _⟩ | ⟨k, g1, g2, _⟩
  · omega
  · have hw := walk_rng (hm.at g1.1) hc.2
    have hp := walk_pos (hm.at g1.1) hc.2
    have e : cwW m c.Speed k = m_impl_Airway_walkTime (at' m.Airways k) c.Speed := rfl
    rw [g2, e, wr64 (by omega)] at h3
    omega
theorem ahead_some (hm : MineIn m) (hc : CrewIn m c) (hs : 0 ≤ start ∧ start ≤ 36000) {j : Int} (hj : 0 ≤ j ∧ j < m.Junctions) (hjc : j ≠ c.Junction) (hr : 0 ≤ at' (m_spec_l19Times m arr blocked c start) j) : ∃ n, 0 ≤ n ∧ n < m.Junctions ∧ Ahead m arr blocked c start j n = true := by
  have hB := times_SmB (arr := arr) (blocked := blocked) hm hc hs
  have hok := cwEs_n hm blocked hc.2
  have hT := specTimes_is (arr := arr) (blocked := blocked) hm hc hs
  cases hsf : cwSafe arr c.Junction start with
  | false =>
    rw [hsf] at hT
    simp only [Bool.not_false, Bool.cond_true] at hT
    rw [hT, at_rep hj.1 (by omega)] at hr; omega
  | true =>
    rw [hsf] at hT
    simp only [Bool.not_true, Bool.cond_false] at hT
    obtain ⟨hS, hfix⟩ := cw_enough hm arr blocked hc hs
    have h0 : Prd m.Junctions c.Junction (cwEs m blocked c.Speed) (cwSafe arr) (cwStart m c start) := fun v hv0 hvJ hvs hv => by
      rw [cwStart, put_at_ne hc.1.1 hv0 (fun e => hvs e.symm), at_rep hv0 (by omega)] at hv; omega
    have h1 := swps_prd hok m.Junctions.toNat hS.1 h0
    have hl : ((swps (cwSafe arr) (cwEs m blocked c.Speed) m.Junctions.toNat (cwStart m c start)).length : Int) = m.Junctions := by rw [← hT]; exact hB.1
    rw [← hT] at h1 hfix hl
    obtain ⟨e, he, g1, g2, g3, g4⟩ := prd_eq hok (cwSafe_mono arr) hl hfix h1 hj.1 hj.2 hjc hr
    obtain ⟨k, hk, hkw⟩ := mem_cwEs.1 he
    have hu := (hok e he).1
    refine ⟨e.1, hu.1, hu.2, ?_⟩
    have hst : m_spec_l19Step m blocked c.Speed e.1 j = e.2.2 := by
      rw [g1] at hk
      rcases step_is hm blocked hc.2 e.1 j with ⟨_, q2⟩ | ⟨k', q1, q2, q3⟩
      · exact absurd hk (q2 k)
      · have h5 := q3 k hk
        have h6 := g4 (e.1, j, cwW m c.Speed k') (mem_cwEs.2 ⟨k', q1, rfl⟩) rfl rfl
        dsimp only at h6
        omega
    have hw := (hok e he).2.2.2
    have hb := hB.hi hm.1.2 hj.1 hj.2
    simp only [Ahead, Bool.and_eq_true, decide_eq_true_eq, beq_iff_eq, hst]
    exact ⟨⟨hw, g2⟩, by rw [wr64 (by omega)]; exact g3⟩
theorem exit_in {times exits : List Int} {J : Int} (h : ∀ y ∈ exits, 0 ≤ y ∧ y < J) : m_spec_l19Exit times exits = -1 ∨ ((0 ≤ m_spec_l19Exit times exits ∧ m_spec_l19Exit times exits < J) ∧ 0 ≤ at' times (m_spec_l19Exit times exits)) := by
  simp only [m_spec_l19Exit]
  refine LOOP_post (fun (x : Int × Int) => (0 ≤ x.2 ∧ x.2 ≤ exits.length) ∧ (x.1 = -1 ∨ ((0 ≤ x.1 ∧ x.1 < J) ∧ 0 ≤ at' times x.1))) (fun x => ((exits.length : Int) - x.2).toNat) (fun _ (r : Int) => r = -1 ∨ ((0 ≤ r ∧ r < J) ∧ 0 ≤ at' times r)) ?_ _ _ ⟨by dsimp only; omega, .inl rfl⟩ (by dsimp only; omega)
  rintro rec ⟨a, i⟩ ⟨hr, hI⟩ ih
  dsimp only at hr hI ih ⊢
  simp only [m_spec_l19Exit_b1]
  by_cases hi : i < exits.length
  · simp only [hi, decide_true, Bool.cond_true]
    cases hc : (decide (0 ≤ (at' times (at' exits i)))) && ((decide (a < 0)) || (decide ((at' times (at' exits i)) < (at' times a)))) with
    | true =>
      simp only [Bool.and_eq_true, decide_eq_true_eq] at hc
      exact ih _ ⟨by dsimp only; omega, .inr ⟨at_all h ⟨hr.1, hi⟩, hc.1⟩⟩ (by dsimp only; omega)
    | false => exact ih _ ⟨by dsimp only; omega, hI⟩ (by dsimp only; omega)
  · simp only [hi, decide_false, Bool.cond_false]; exact hI
end
def RtI (T : List Int) (J : Int) (len : Nat) (j : Int) : Prop := ((0 ≤ j ∧ j < J) ∧ 0 ≤ at' T j) ∧ len + rank T J j ≤ 17
theorem rt_start {times exits : List Int} {J : Int} (hJ : J ≤ 16) (h : ∀ y ∈ exits, 0 ≤ y ∧ y < J) (hn : 0 ≤ m_spec_l19Exit times exits) : RtI times J 1 (m_spec_l19Exit times exits) := by
  have h1 := (exit_in (times := times) h).resolve_left (by omega)
  have := rank_le times J (m_spec_l19Exit times exits)
  exact ⟨h1, by omega⟩
section
variable {m : gMine} {arr : List Int} {blocked : Int} {c : gCrew} {start : Int} {exits : List Int}
theorem rtS (hm : MineIn m) (hc : CrewIn m c) (hs : 0 ≤ start ∧ start ≤ 36000) (he : m_spec_l00Rises exits 0 (IntKind.wrap .i64 (m.Junctions - 1)) = true) (hn : 0 ≤ m_spec_l19Exit (m_spec_l19Times m arr blocked c start) exits) : RtI (m_spec_l19Times m arr blocked c start) m.Junctions 1 (m_spec_l19Exit (m_spec_l19Times m arr blocked c start) exits) := by
  have h := rtE (arr := arr) (blocked := blocked) hm hc hs he
  rw [(times_SmB (arr := arr) (blocked := blocked) hm hc hs).1] at h
  exact rt_start hm.1.2 h hn
theorem rtL (hm : MineIn m) (hc : CrewIn m c) (hs : 0 ≤ start ∧ start ≤ 36000) : ((m_spec_l19Times m arr blocked c start).length : Int) = m.Junctions := (times_SmB (arr := arr) (blocked := blocked) hm hc hs).1
theorem rt_next (hm : MineIn m) (hc : CrewIn m c) (hs : 0 ≤ start ∧ start ≤ 36000) {len : Nat} {j n : Int} (h : RtI (m_spec_l19Times m arr blocked c start) m.Junctions len j) (hn : 0 ≤ n ∧ n < m.Junctions) (hA : Ahead m arr blocked c start j n = true) : RtI (m_spec_l19Times m arr blocked c start) m.Junctions (len + 1) n ∧ rank (m_spec_l19Times m arr blocked c start) m.Junctions n < rank (m_spec_l19Times m arr blocked c start) m.Junctions j := by
  have hlt := ahead_lt hm hc hs hn hA
  have hr := rank_lt (J := m.Junctions) hn hlt.2
  have := h.2
  exact ⟨⟨⟨hn, hlt.1⟩, by omega⟩, hr⟩
def WayOn (m : gMine) (arr : List Int) (blocked : Int) (c : gCrew) (start j x : Int) : Prop := (0 ≤ x ∧ x < m.Junctions) ∧ ∃ n, x ≤ n ∧ n < m.Junctions ∧ Ahead m arr blocked c start j n = true
theorem way_start (hm : MineIn m) (hc : CrewIn m c) (hs : 0 ≤ start ∧ start ≤ 36000) {len : Nat} {j : Int} (hj : ¬ j = c.Junction) (h : RtI (m_spec_l19Times m arr blocked c start) m.Junctions len j) : WayOn m arr blocked c start j 0 := by
  obtain ⟨n, h0, h1, h2⟩ := ahead_some hm hc hs h.1.1 hj h.1.2
  exact ⟨⟨by omega, by omega⟩, n, h0, h1, h2⟩
theorem way_next {j x : Int} (h : WayOn m arr blocked c start j x) (hn : (m_spec_l19Step m blocked c.Speed x j < 0 ∨ at' (m_spec_l19Times m arr blocked c start) x < 0) ∨ ¬ IntKind.wrap .i64 (at' (m_spec_l19Times m arr blocked c start) x + m_spec_l19Step m blocked c.Speed x j) = at' (m_spec_l19Times m arr blocked c start) j) : WayOn m arr blocked c start j (x + 1) := by
  obtain ⟨hx, n, h0, h1, h2⟩ := h
  have hne : ¬ x = n := by
    rintro rfl
    simp only [Ahead, Bool.and_eq_true, decide_eq_true_eq, beq_iff_eq] at h2
    rcases hn with (hn | hn) | hn
    · omega
    · omega
    · exact hn h2.2
  exact ⟨⟨by omega, by omega⟩, n, by omega, h1, h2⟩
theorem way_end {j x : Int} {len : Nat} (hm : MineIn m) (hc : CrewIn m c) (hs : 0 ≤ start ∧ start ≤ 36000) (h : RtI (m_spec_l19Times m arr blocked c start) m.Junctions len j) (hw : 0 ≤ x ∧ x < m.Junctions) (hn : (0 ≤ m_spec_l19Step m blocked c.Speed x j ∧ 0 ≤ at' (m_spec_l19Times m arr blocked c start) x) ∧ IntKind.wrap .i64 (at' (m_spec_l19Times m arr blocked c start) x + m_spec_l19Step m blocked c.Speed x j) = at' (m_spec_l19Times m arr blocked c start) j) : RtI (m_spec_l19Times m arr blocked c start) m.Junctions (len + 1) x ∧ rank (m_spec_l19Times m arr blocked c start) m.Junctions x < rank (m_spec_l19Times m arr blocked c start) m.Junctions j :=
  rt_next hm hc hs h hw (by simp only [Ahead, Bool.and_eq_true, decide_eq_true_eq, beq_iff_eq]; exact hn)
end

end Go.Proofs.Ytlbpjgeoaiiamaa
