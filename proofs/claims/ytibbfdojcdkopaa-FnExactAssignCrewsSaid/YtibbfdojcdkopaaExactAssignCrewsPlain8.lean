/-
  PLAIN LAWS about the models: no program in sight. Conditions: as each theorem states them.
-/
import Derived.Test.YtibbfdojcdkopaaExactAssignCrewsPlain7
set_option linter.unusedVariables false
set_option linter.unusedSimpArgs false
set_option linter.unusedSectionVars false
set_option linter.unnecessarySimpa false
namespace Go.Proofs.Ytibbfdojcdkopaa
open Go Go.RowKit Go.Proofs Go.Proofs.Ytibbfdojcdkopaa.E
/-! ## Ways out: both models come to the same times -/
def cwSafe (arr : List Int) (v t : Int) : Bool := decide (at' arr v < 0) || decide (t < at' arr v)
def cwW (m : gMine) (speed k : Int) : Int := m_impl_Airway_walkTime (at' m.Airways k) speed
def cwE (m : gMine) (speed k : Int) : List (Int × Int × Int) := [((at' m.Airways k).From, (at' m.Airways k).To, cwW m speed k), ((at' m.Airways k).To, (at' m.Airways k).From, cwW m speed k)]
def cwEs (m : gMine) (blocked speed : Int) : List (Int × Int × Int) := ((irange 0 m.Airways.length).filter (fun k => !(k == blocked))).flatMap (cwE m speed)
theorem walk_eq (a : gAirway) (speed : Int) : m_impl_Airway_walkTime a speed = m_spec_l19Walk a speed := rfl
theorem walk_rng {J : Int} {a : gAirway} (ha : AirIn J a) {speed : Int} (hs : 10 ≤ speed ∧ speed ≤ 300) : 0 ≤ m_impl_Airway_walkTime a speed ∧ m_impl_Airway_walkTime a speed ≤ 1000000000 := by
  unfold AirIn at ha
  simp only [m_impl_Airway_walkTime, m_impl_divUp]
  rw [wr64 (n := 100 * a.Length) (by omega), wr64 (n := 100 * a.Length + speed) (by omega), wr64 (n := 100 * a.Length + speed - 1) (by omega), Int.tdiv_eq_ediv_of_nonneg (by omega)]
  have h0 : 0 ≤ (100 * a.Length + speed - 1) / speed := Int.ediv_nonneg (by omega) (by omega)
  have h1 : (100 * a.Length + speed - 1) / speed < 1000001 := Int.ediv_lt_of_lt_mul (by omega) (by
    have : 1000001 * 1 ≤ 1000001 * speed := by omega
    omega)
  rw [wr64 (by omega)]
  omega
theorem cwEs_ok {m : gMine} (hm : MineIn m) (blocked : Int) {speed : Int} (hs : 10 ≤ speed ∧ speed ≤ 300) : ∀ e ∈ cwEs m blocked speed, EdW m.Junctions e := by
  intro e he
  obtain ⟨k, hk, he⟩ := List.mem_flatMap.1 he
  rw [List.mem_filter, mem_irange] at hk
  have ha := hm.at (i := k) (by omega)
  have hw := walk_rng ha hs
  unfold AirIn at ha
  simp only [cwE, List.mem_cons, List.not_mem_nil, or_false] at he
  rcases he with rfl | rfl <;> (simp only [EdW, cwW]; omega)
/-- an airway in both directions -/
def cwStep (m : gMine) (arr : List Int) (blocked speed k : Int) (x : List Int × Bool) : List Int × Bool := bif k == blocked then x else swpW (cwSafe arr) (cwE m speed k) x
theorem cw_round (m : gMine) (arr : List Int) (blocked speed : Int) : ∀ (n : Nat) (i : Int) (x : List Int × Bool), fori (cwStep m arr blocked speed) n i x = swpW (cwSafe arr) (((irange i n).filter (fun k => !(k == blocked))).flatMap (cwE m speed)) x
  | 0, _, _ => rfl
  | n + 1, i, x => by
    show fori (cwStep m arr blocked speed) n (i + 1) (cwStep m arr blocked speed i x) = _
    rw [cw_round m arr blocked speed n (i + 1)]
    simp only [irange, List.filter_cons, cwStep]
    cases h : (i == blocked) with
    | true => simp
    | false =>
      simp only [Bool.not_false, if_true, List.flatMap_cons, Bool.cond_false]
      simp only [swpW, List.foldl_append]
def cwStart (m : gMine) (c : gCrew) (start : Int) : List Int := put' (List.replicate m.Junctions.toNat (-1)) c.Junction start
theorem cw_enough {m : gMine} (hm : MineIn m) (arr : List Int) (blocked : Int) {c : gCrew} (hc : CrewIn m c) {start : Int} (hs : 0 ≤ start ∧ start ≤ 36000) : SmB m.Junctions (cwStart m c start) ∧ Fixd (cwSafe arr) (cwEs m blocked c.Speed) (swps (cwSafe arr) (cwEs m blocked c.Speed) m.Junctions.toNat (cwStart m c start)) := by
  have hJ := hm.1
  obtain ⟨h1, h2⟩ := hc
  refine ⟨SmB.start hJ rfl h1 (by omega), enough (J := m.Junctions.toNat) (s := c.Junction) (c := start) (fun e he => (cwEs_ok hm blocked h2 e he).ok) (by simp [cwStart, put_len]) (by omega) hs.1 (put_at ⟨h1.1, by simp; omega⟩) fun v hv0 hv hvs => ?_⟩
  rw [cwStart, put_at_ne h1.1 hv0 (fun e => hvs e.symm), at_rep hv0 (by omega)]
  omega
theorem rep_len {c : Int} (hc : 1 ≤ c ∧ c ≤ 16) : ((m_slices_Repeat_int64 ([(-1)] : List Int) c).length : Int) = c := by
  rw [rep_eq hc]; simp; omega
theorem cw_start {m : gMine} {c : gCrew} {start : Int} (hm : MineIn m) (hc : CrewIn m c) (hs : 0 ≤ start ∧ start ≤ 36000) : SmB m.Junctions (put' (m_slices_Repeat_int64 [-1] m.Junctions) c.Junction start) := by
  rw [rep_eq hm.1]
  exact SmB.start hm.1 rfl hc.1 (by omega)
theorem cw_pot {m : gMine} {c : gCrew} {start : Int} (hm : MineIn m) (hc : CrewIn m c) (hs : 0 ≤ start ∧ start ≤ 36000) : pot (put' (m_slices_Repeat_int64 [-1] m.Junctions) c.Junction start) + (bif true then 1 else 0) < 300000000000 := by
  have := (cw_start hm hc hs).pot hm.1.2
  simp only [Bool.cond_true]; omega
theorem at2 {J : Int} {a : gAirway} (ha : AirIn J a) {q : Int} (hq : 0 ≤ q ∧ q < 2) : (0 ≤ at' ([a.From, a.To] : List Int) q ∧ at' ([a.From, a.To] : List Int) q < J) ∧ 0 ≤ at' ([a.To, a.From] : List Int) q ∧ at' ([a.To, a.From] : List Int) q < J := by
  unfold AirIn at ha
  have e : q = 0 ∨ q = 1 := by omega
  rcases e with e | e <;> (subst e; simp [at']; omega)
theorem times_put {m : gMine} {c : gCrew} (hm : MineIn m) (hc : 10 ≤ c.Speed ∧ c.Speed ≤ 300) {a0 a : List Int} {fl : Bool} (h : SmI m.Junctions a0 a fl) {k q : Int} (hk : 0 ≤ k ∧ k < m.Airways.length) (hq : 0 ≤ q ∧ q < 2) {P Q : Prop}
    (h1 : ((P ∧ 0 ≤ at' a (at' ([(at' m.Airways k).From, (at' m.Airways k).To] : List Int) q)) ∧ (at' a (at' ([(at' m.Airways k).To, (at' m.Airways k).From] : List Int) q) < 0 ∨ IntKind.wrap .i64 (at' a (at' ([(at' m.Airways k).From, (at' m.Airways k).To] : List Int) q) + m_impl_Airway_walkTime (at' m.Airways k) c.Speed) < at' a (at' ([(at' m.Airways k).To, (at' m.Airways k).From] : List Int) q))) ∧ Q) :
    SmI m.Junctions a0 (put' a (at' ([(at' m.Airways k).To, (at' m.Airways k).From] : List Int) q) (IntKind.wrap .i64 (at' a (at' ([(at' m.Airways k).From, (at' m.Airways k).To] : List Int) q) + m_impl_Airway_walkTime (at' m.Airways k) c.Speed))) true := by
  have ha := hm.at hk
  have hw := walk_rng ha hc
  have h2 := at2 ha hq
  obtain ⟨⟨⟨_, h3⟩, h4⟩, _⟩ := h1
  have hwr : IntKind.wrap .i64 (at' a (at' ([(at' m.Airways k).From, (at' m.Airways k).To] : List Int) q) + m_impl_Airway_walkTime (at' m.Airways k) c.Speed) = at' a (at' ([(at' m.Airways k).From, (at' m.Airways k).To] : List Int) q) + m_impl_Airway_walkTime (at' m.Airways k) c.Speed := by
    have := h.1.hi hm.1.2 h2.1.1 h2.1.2; exact wr64 (by omega)
  rw [hwr] at h4 ⊢
  exact h.put hm.1.2 h2.1 h2.2 h3 hw h4
theorem muts_len {s : S} {full : Bool} {M : List (Nat × Nat)} {l L m m' : Nat} (h : E.look M l = some L) (e : m' = m) : PassB s full M (.os l m') (.os L m) [] := by subst e; exact .muts h
theorem go_len (arr times : List Int) (u v w : Int) : (m_spec_l19Go arr times u v w).length = times.length := by
  simp only [m_spec_l19Go]
  cases decide (at' times u < 0) with
  | true => rfl
  | false => cases (m_spec_l19Safe arr v (IntKind.wrap .i64 (at' times u + w)) && (decide (at' times v < 0) || decide (IntKind.wrap .i64 (at' times u + w) < at' times v))) <;> simp [put_len]
theorem bif_pr {α ρ : Type} (B : Bool) (r : α × Bool × Int → ρ) (x y : α) (fl : Bool) (q : Int) : (bif B then r (x, true, q) else r (y, fl, q)) = r ((bif B then (x, true) else (y, fl)).1, (bif B then (x, true) else (y, fl)).2, q) := by cases B <;> rfl
theorem implTimes_is {e : gescape} {c : gCrew} {start : Int} (hm : MineIn e.mine) (hc : CrewIn e.mine c) (hs : 0 ≤ start ∧ start ≤ 36000) : m_impl_escape_times e c start = bif !(cwSafe e.arrivals c.Junction start) then List.replicate e.mine.Junctions.toNat (-1) else swps (cwSafe e.arrivals) (cwEs e.mine e.blocked c.Speed) e.mine.Junctions.toNat (cwStart e.mine c start) := by
  have hJ := hm.1
  have hmb : ∀ j t, m_impl_escape_mayBe e j t = cwSafe e.arrivals j t := fun _ _ => rfl
  simp only [m_impl_escape_times, rep_eq hJ, hmb]
  cases hsf : cwSafe e.arrivals c.Junction start with
  | false => rfl
  | true =>
    simp only [Bool.not_true, Bool.cond_false]
    obtain ⟨hS, hfix⟩ := cw_enough hm e.arrivals e.blocked hc hs
    refine LOOP_fix (safe := cwSafe e.arrivals) hJ.2 (cwEs_ok hm e.blocked hc.2) hS hfix (fun rec a ha => ?_) (fun rec a => by simp only [m_impl_escape_times_b1, Bool.cond_false])
    simp only [m_impl_escape_times_b1, Bool.cond_true]
    have h2 := LOOP_fori2 (b := m_impl_escape_times_b2 e c start rec (fun x1 => x1.1) (a, true)) (k := fun x2 => rec (x2.1, x2.2.1)) (n := (e.mine.Airways.length : Int)) (cwStep e.mine e.arrivals e.blocked c.Speed) (fun rec2 b fl k hk0 hk => by
      simp only [m_impl_escape_times_b2, hk, decide_true, Bool.cond_true]
      have hgo : ∀ (b : List Int) (fl : Bool) (u v w : Int), (bif (((k != e.blocked) && (decide (0 ≤ at' b u))) && ((decide (at' b v < 0)) || (decide (IntKind.wrap .i64 (at' b u + w) < at' b v)))) && (m_impl_escape_mayBe e v (IntKind.wrap .i64 (at' b u + w))) then (put' b v (IntKind.wrap .i64 (at' b u + w)), true) else (b, fl)) = bif k == e.blocked then (b, fl) else rlxW (cwSafe e.arrivals) (u, v, w) (b, fl) := fun b fl u v w => by
        simp only [rlxW, hmb, bne]
        cases (k == e.blocked) with
        | true => simp
        | false => simp
      have step : ∀ (f : Nat) (b : List Int) (fl : Bool) (q : Int), LOOP (m_impl_escape_times_b3 e c start rec (fun x1 => x1.1) (a, true) rec2 (fun x2 => rec (x2.1, x2.2.1)) (b, fl, k)) (fun x3 => rec2 (x3.1, x3.2.1, k + 1)) f (b, fl, q) = LOOP (m_impl_escape_times_b3 e c start rec (fun x1 => x1.1) (a, true) rec2 (fun x2 => rec (x2.1, x2.2.1)) (b, fl, k)) (fun x3 => rec2 (x3.1, x3.2.1, k + 1)) f (b, fl, q) := fun _ _ _ _ => rfl
      show LOOP _ _ 3 _ = _
      have b3 : ∀ (x2 : List Int × Bool × Int) (r3 : List Int × Bool × Int → List Int) (k3 : List Int × Bool × Int → List Int) (b' : List Int) (fl' : Bool) (q u v : Int), x2.2.2 = k → q < 2 → at' ([(at' e.mine.Airways k).From, (at' e.mine.Airways k).To] : List Int) q = u → at' ([(at' e.mine.Airways k).To, (at' e.mine.Airways k).From] : List Int) q = v →
          m_impl_escape_times_b3 e c start rec (fun x1 => x1.1) (a, true) rec2 (fun x2 => rec (x2.1, x2.2.1)) x2 r3 k3 (b', fl', q) = r3 ((bif k == e.blocked then (b', fl') else rlxW (cwSafe e.arrivals) (u, v, cwW e.mine c.Speed k) (b', fl')).1, (bif k == e.blocked then (b', fl') else rlxW (cwSafe e.arrivals) (u, v, cwW e.mine c.Speed k) (b', fl')).2, q + 1) := by
        intro x2 r3 k3 b' fl' q u v hx hq hu hv
        rw [← hgo]
        simp only [m_impl_escape_times_b3, hx, hq, decide_true, Bool.cond_true, hu, hv, cwW]
        exact bif_pr _ _ _ _ _ _
      simp only [LOOP]
      rw [b3 _ _ _ _ _ 0 (at' e.mine.Airways k).From (at' e.mine.Airways k).To rfl (by omega) rfl rfl, b3 _ _ _ _ _ (0 + 1) (at' e.mine.Airways k).To (at' e.mine.Airways k).From rfl (by omega) rfl rfl]
      have hend : ¬ ((0 : Int) + 1 + 1) < 2 := by omega
      simp only [m_impl_escape_times_b3, hend, decide_false, Bool.cond_false, cwStep]
      cases (k == e.blocked) <;> rfl) (fun rec2 b fl => by simp [m_impl_escape_times_b2]) (((e.mine.Airways.length : Int) - 0 : Int).toNat + 1) 0 a false (by omega) (by omega) (by omega)
    rw [h2, show ((e.mine.Airways.length : Int) - 0 : Int).toNat = e.mine.Airways.length by omega, cw_round]
    rfl
theorem go_rlx {J : Int} {arr a : List Int} (hJ : J ≤ 16) (ha : SmB J a) {e : Int × Int × Int} (he : EdW J e) : m_spec_l19Go arr a e.1 e.2.1 e.2.2 = rlx (cwSafe arr) e a := by
  have h := (rlxW_SmI (safe := cwSafe arr) hJ he (x := (a, false)) (SmI.refl ha)).1
  rw [← h]
  have hsf : ∀ j t, m_spec_l19Safe arr j t = cwSafe arr j t := fun _ _ => rfl
  simp only [m_spec_l19Go, rlxW, hsf]
  by_cases h0 : at' a e.1 < 0
  · have : ¬ 0 ≤ at' a e.1 := by omega
    simp [h0, this]
  · have h1 : 0 ≤ at' a e.1 := by omega
    simp only [h0, h1, decide_true, decide_false, Bool.cond_false, Bool.true_and]
    rw [Bool.and_comm]
    cases (decide (at' a e.2.1 < 0) || decide (IntKind.wrap .i64 (at' a e.1 + e.2.2) < at' a e.2.1)) && cwSafe arr e.2.1 (IntKind.wrap .i64 (at' a e.1 + e.2.2)) <;> rfl
theorem swp_fori {arr : List Int} {m : gMine} {blocked speed : Int} : ∀ (n : Nat) (i : Int) (a : List Int), fori (fun k a => bif k == blocked then a else swp (cwSafe arr) (cwE m speed k) a) n i a = swp (cwSafe arr) (((irange i n).filter (fun k => !(k == blocked))).flatMap (cwE m speed)) a
  | 0, _, _ => rfl
  | n + 1, i, a => by
    simp only [fori]
    rw [swp_fori n (i + 1)]
    simp only [irange, List.filter_cons]
    cases h : (i == blocked) with
    | true => simp
    | false =>
      simp only [Bool.not_false, if_true, List.flatMap_cons, Bool.cond_false]
      simp only [swp, List.foldl_append]
theorem specTimes_is {m : gMine} {arr : List Int} {blocked : Int} {c : gCrew} {start : Int} (hm : MineIn m) (hc : CrewIn m c) (hs : 0 ≤ start ∧ start ≤ 36000) : m_spec_l19Times m arr blocked c start = bif !(cwSafe arr c.Junction start) then List.replicate m.Junctions.toNat (-1) else swps (cwSafe arr) (cwEs m blocked c.Speed) m.Junctions.toNat (cwStart m c start) := by
  have hJ := hm.1
  have hsf : ∀ j t, m_spec_l19Safe arr j t = cwSafe arr j t := fun _ _ => rfl
  simp only [m_spec_l19Times]
  have h1 := LOOP_fori (b := m_spec_l19Times_b1 m arr blocked c start) (k := fun (x1 : (List Int) × Int) => bif !(m_spec_l19Safe arr c.Junction start) then x1.1 else LOOP (m_spec_l19Times_b2 m arr blocked c start x1) (fun (x2 : (List Int) × Int) => x2.1) ((m.Junctions - 0 : Int).toNat + 1) (put' x1.1 c.Junction start, 0)) (n := m.Junctions) (fun _ xs => xs ++ [-1]) (fun rec xs i h0 h1 => by
    simp only [m_spec_l19Times_b1, h1, decide_true, Bool.cond_true]) (fun rec xs => by simp [m_spec_l19Times_b1]) ((m.Junctions - 0 : Int).toNat + 1) 0 [] (by omega) (by omega) (by omega)
  rw [h1, rep_append, show (m.Junctions - 0 : Int).toNat = m.Junctions.toNat by omega, hsf]
  cases hsafe : cwSafe arr c.Junction start with
  | false => rfl
  | true =>
    simp only [Bool.not_true, Bool.cond_false]
    obtain ⟨hS, _⟩ := cw_enough hm arr blocked hc hs
    have hok := cwEs_ok hm blocked hc.2
    have h2 := LOOP_foriI (b := m_spec_l19Times_b2 m arr blocked c start (List.replicate m.Junctions.toNat (-1), m.Junctions)) (k := fun (x2 : (List Int) × Int) => x2.1) (n := m.Junctions) (fun _ a => SmB m.Junctions a) (fun _ a => swp (cwSafe arr) (cwEs m blocked c.Speed) a) (fun rec a i hi0 hi ha => by
      simp only [m_spec_l19Times_b2, hi, decide_true, Bool.cond_true]
      have h3 := LOOP_foriF2 (b := m_spec_l19Times_b3 m arr blocked c start (List.replicate m.Junctions.toNat (-1), m.Junctions) rec (fun x2 => x2.1) (a, i)) (k := fun x3 => rec (x3.2, i + 1)) (n := (m.Airways.length : Int)) (fun _ a => SmB m.Junctions a) (fun k a => bif k == blocked then a else swp (cwSafe arr) (cwE m c.Speed k) a) (fun rc b k hk0 hk hb => by
        simp only [m_spec_l19Times_b3, hk, decide_true, Bool.cond_true]
        cases hkb : (k == blocked) with
        | true => rfl
        | false =>
          simp only [Bool.cond_false]
          have ha' := hm.at (i := k) ⟨hk0, hk⟩
          have hw := walk_rng ha' hc.2
          unfold AirIn at ha'
          have e1 : EdW m.Junctions ((at' m.Airways k).From, (at' m.Airways k).To, cwW m c.Speed k) := by simp only [EdW, cwW]; omega
          have e2 : EdW m.Junctions ((at' m.Airways k).To, (at' m.Airways k).From, cwW m c.Speed k) := by simp only [EdW, cwW]; omega
          have g1 := go_rlx (arr := arr) hJ.2 hb e1
          have hb' : SmB m.Junctions (rlx (cwSafe arr) ((at' m.Airways k).From, (at' m.Airways k).To, cwW m c.Speed k) b) := swp_SmB (es := [((at' m.Airways k).From, (at' m.Airways k).To, cwW m c.Speed k)]) hJ.2 (fun e he => by simp at he; subst he; exact e1) hb
          have g2 := go_rlx (arr := arr) hJ.2 hb' e2
          simp only [cwW] at g1 g2
          rw [← walk_eq, g1, g2]
          rfl) (fun b k hk0 hk hb => by
        cases hkb : (k == blocked) with
        | true => exact hb
        | false => exact swp_SmB hJ.2 (fun e he => hok e (List.mem_flatMap.2 ⟨k, List.mem_filter.2 ⟨mem_irange.2 ⟨hk0, by omega⟩, by simp [hkb]⟩, he⟩)) hb) (fun rc b _ => by simp [m_spec_l19Times_b3]) (((m.Airways.length : Int) - 0 : Int).toNat + 1) 0 a (by omega) (by omega) (by omega) ha
      rw [h3, show ((m.Airways.length : Int) - 0 : Int).toNat = m.Airways.length by omega, swp_fori]
      rfl) (fun a i _ _ ha => swp_SmB hJ.2 hok ha) (fun rec a _ => by simp [m_spec_l19Times_b2]) ((m.Junctions - 0 : Int).toNat + 1) 0 (cwStart m c start) (by omega) (by omega) (by omega) hS
    rw [show (m.Junctions - 0 : Int).toNat = m.Junctions.toNat by omega, fori_swpsW] at h2
    exact h2
theorem times_eq {m : gMine} {arr : List Int} {blocked : Int} {c : gCrew} {start : Int} (hm : MineIn m) (hc : CrewIn m c) (hs : 0 ≤ start ∧ start ≤ 36000) : m_impl_escape_times (gescape.mk m arr blocked) c start = m_spec_l19Times m arr blocked c start := by
  rw [implTimes_is (e := gescape.mk m arr blocked) hm hc hs, specTimes_is hm hc hs]
theorem times_SmB {m : gMine} {arr : List Int} {blocked : Int} {c : gCrew} {start : Int} (hm : MineIn m) (hc : CrewIn m c) (hs : 0 ≤ start ∧ start ≤ 36000) : SmB m.Junctions (m_spec_l19Times m arr blocked c start) := by
  have hJ := hm.1
  rw [specTimes_is hm hc hs]
  cases cwSafe arr c.Junction start with
  | false =>
    refine ⟨by simp; omega, fun j hj0 hj => ?_⟩
    have := cntS_rng (List.replicate m.Junctions.toNat (-1))
    simp only [Bool.not_false, Bool.cond_true]
    rw [at_rep hj0 (by omega)]; omega
  | true => exact swps_SmBw hJ.2 (cwEs_ok hm blocked hc.2) _ (cw_enough hm arr blocked hc hs).1

end Go.Proofs.Ytibbfdojcdkopaa
