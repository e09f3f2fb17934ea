/-
  PLAIN LAWS about the models: no program in sight. Conditions: as each theorem states them.
-/
import Derived.Test.YtlbpjgeoaiiamaaRoutesPlain26
set_option linter.unusedVariables false
set_option linter.unusedSimpArgs false
set_option linter.unusedSectionVars false
set_option linter.unnecessarySimpa false
namespace Go.Proofs.Ytlbpjgeoaiiamaa
open Go Go.RowKit Go.Proofs Go.Proofs.Ytlbpjgeoaiiamaa.E
/-! ## A fire and a crew that are drawn -/
theorem fire_in {code : List Int} {m : gMine} (hc : ∀ y ∈ code, 0 ≤ y ∧ y ≤ 255) (hm : MineIn m) (h0 : 0 < m.Airways.length) : FireIn m (m_spec_R8Fire code m) := by
  have l0 := Lim.from hc
  have n1 := l0.num (k := 10)
  have n1' := n1.2 (by omega)
  have l1 := l0.pick (k := 10)
  have n2 := l1.num (k := (m.Airways.length : Int))
  have n2' := n2.2 (by omega)
  have l2 := l1.pick (k := (m.Airways.length : Int))
  have ha := hm.at (i := (m_spec_l00Src_pick (m_spec_l00Src_pick (m_spec_l00From code) 10).2 (m.Airways.length : Int)).1) ⟨n2.1, n2'⟩
  unfold AirIn at ha
  have n3 := l2.num (k := (at' m.Airways (m_spec_l00Src_pick (m_spec_l00Src_pick (m_spec_l00From code) 10).2 (m.Airways.length : Int)).1).Length)
  have n3' := n3.2 (by omega)
  simp only [m_spec_R8Fire, FireIn]
  rw [wr64 (n := 60 * (m_spec_l00Src_pick (m_spec_l00From code) 10).1) (by omega)]
  omega
theorem crew_in {code : List Int} {m : gMine} (hc : ∀ y ∈ code, 0 ≤ y ∧ y ≤ 255) (hm : MineIn m) : CrewIn m (m_spec_R8Crew code m) ∧ m_spec_l19One (m_spec_R8Crew code m) = true := by
  have hJ := hm.1
  have l0 := Lim.from hc
  have n1 := l0.num (k := m.Junctions)
  have n1' := n1.2 (by omega)
  have l1 := l0.pick (k := m.Junctions)
  have n2 := l1.num (k := 150)
  have n2' := n2.2 (by omega)
  have hn : m_spec_l01Name ([99, 49] : List UInt8) = true := by decide
  have hw : IntKind.wrap .i64 (30 + (m_spec_l00Src_pick (m_spec_l00Src_pick (m_spec_l00From code) m.Junctions).2 150).1) = 30 + (m_spec_l00Src_pick (m_spec_l00Src_pick (m_spec_l00From code) m.Junctions).2 150).1 := wr64 (by omega)
  simp only [m_spec_R8Crew, CrewIn, m_spec_l19One, hn, m_spec_l00In, Bool.true_and, Bool.and_eq_true, decide_eq_true_eq, hw]
  omega
/-- what the law's crew, mine and smoke are -/
structure Rt (m : gMine) (arr : List Int) (c : gCrew) : Prop where
  M : MineIn m
  V : m_spec_l04Ok m = true
  N : 0 < m.Airways.length
  C : CrewIn m c
  O : m_spec_l19One c = true
  L : (arr.length : Int) = m.Junctions
  A : m_spec_l19Arrivals m arr = true
theorem rt_of {code more : List Int} (hc : ∀ y ∈ code, 0 ≤ y ∧ y ≤ 255) (hm : ∀ y ∈ more, 0 ≤ y ∧ y ≤ 255) (h0 : 0 < (m_spec_R8Mine code).Airways.length) : Rt (m_spec_R8Mine code) (m_spec_ArrivalOf (m_spec_R8Mine code) (m_spec_R8Flows more (m_spec_R8Mine code)) (m_spec_R8Fire more (m_spec_R8Mine code))).1 (m_spec_R8Crew more (m_spec_R8Mine code)) := by
  have hM := r8mine_in hc
  have hV : m_spec_l04Ok (m_spec_R8Mine code) = true := by rw [← mine_eq]; exact r8mine_ok hc
  have hF := r8flows_in (code := more) (more := code) hm hc
  have hI := fire_in hm hM h0
  have hC := crew_in hm hM
  have hFi : m_spec_l17Fire (m_spec_R8Mine code) (m_spec_R8Fire more (m_spec_R8Mine code)) = true := by
    obtain ⟨⟨g1, g2⟩, ⟨g3, g4⟩, g5, g6⟩ := hI
    have ha := hM.at ⟨g1, g2⟩
    have hA := hM.2.1
    unfold AirIn at ha
    simp only [m_spec_l17Fire, m_spec_l17One, m_spec_l00In, Bool.and_eq_true, decide_eq_true_eq]
    omega
  have hask : m_spec_l17Ask (m_spec_R8Mine code) (m_spec_R8Flows more (m_spec_R8Mine code)) (m_spec_R8Fire more (m_spec_R8Mine code)) = 0 := by
    simp only [m_spec_l17Ask, hV, hFi, l07Flows_iff.2 hF]; rfl
  have ha : (m_spec_ArrivalOf (m_spec_R8Mine code) (m_spec_R8Flows more (m_spec_R8Mine code)) (m_spec_R8Fire more (m_spec_R8Mine code))).1 = m_spec_l17Arrival (m_spec_R8Mine code) (m_spec_R8Flows more (m_spec_R8Mine code)) (m_spec_R8Fire more (m_spec_R8Mine code)) := by
    simp only [m_spec_ArrivalOf, hask]; rfl
  have hS := arrivals_SmB hM hF hI
  have hG := arrivals_ge hM hF hI
  rw [ha]
  refine ⟨hM, hV, h0, hC.1, hC.2, hS.2, ?_⟩
  have hJ := hM.1
  rw [l19Arr_eq, Bool.and_eq_true, beq_iff_eq, allWithin_iff]
  refine ⟨hS.2, all_at.2 fun j hj => ?_⟩
  have h1 := hG j (by omega) (by omega)
  have h2 := hS.1.hi hJ.2 (j := (j : Int)) (by omega) (by omega)
  omega
theorem Rt.ask {m : gMine} {arr : List Int} {c : gCrew} (h : Rt m arr c) {b t : Int} (hb : -1 ≤ b ∧ b < m.Airways.length) (ht : 0 ≤ t ∧ t ≤ 36000) : m_spec_l19Ask m arr b c t = 0 := by
  have hc := h.C.1
  have h1 : decide (m.Junctions ≤ c.Junction) = false := by simp; omega
  have h2 : m_spec_l00In b (-1) ((m.Airways.length : Int) - 1) = true := by simp only [m_spec_l00In, Bool.and_eq_true, decide_eq_true_eq]; omega
  have h3 : m_spec_l17Time t = true := by simp only [m_spec_l17Time, m_spec_l00In, Bool.and_eq_true, decide_eq_true_eq]; omega
  simp only [m_spec_l19Ask, h.V, h.O, h.A, h1, h2, h3]; rfl
theorem rises0 {J : Int} (hJ : 1 ≤ J ∧ J ≤ 16) : m_spec_l00Rises [0] 0 (IntKind.wrap .i64 (J - 1)) = true := by
  rw [wr64 (by omega)]
  have h : m_spec_l00In 0 0 (J - 1) = true := by simp only [m_spec_l00In, Bool.and_eq_true, decide_eq_true_eq]; omega
  simp [m_spec_l00Rises, LOOP, m_spec_l00Rises_b1, at', h]
theorem LOOP_any {ι ρ : Type} [Inhabited ρ] {b : (ι → ρ) → (ι → ρ) → ι → ρ} {k : ι → ρ} {Q : ρ → Prop} (hb : ∀ rec, (∀ x, Q (rec x)) → ∀ x, Q (b rec k x)) (h0 : ∀ x, Q (LOOP b k 0 x)) : ∀ (f : Nat) (x : ι), Q (LOOP b k f x)
  | 0, x => h0 x
  | f + 1, x => hb _ (LOOP_any hb h0 f) x
theorem route_code {m : gMine} {arr : List Int} {b : Int} {c : gCrew} {t : Int} {exits : List Int} (ha : m_spec_l19Ask m arr b c t = 0) (hr : m_spec_l00Rises exits 0 (IntKind.wrap .i64 (m.Junctions - 1)) = true) : (m_spec_EscapeRoute m arr b c t exits).2.2 = if 0 ≤ m_spec_l19Exit (m_spec_l19Times m arr b c t) exits then 0 else 3 := by
  simp only [m_spec_EscapeRoute, ha, hr, bne_self_eq_false, Bool.cond_false, Bool.not_true]
  by_cases h : m_spec_l19Exit (m_spec_l19Times m arr b c t) exits < 0
  · have h2 : ¬ 0 ≤ m_spec_l19Exit (m_spec_l19Times m arr b c t) exits := by omega
    simp only [h, h2, decide_true, Bool.cond_true, if_false]
  · have h2 : 0 ≤ m_spec_l19Exit (m_spec_l19Times m arr b c t) exits := by omega
    simp only [h, h2, decide_false, Bool.cond_false, if_true]
    refine LOOP_any (Q := fun r : List Int × Int × Int => r.2.2 = 0) (fun rec hrec x => ?_) (fun x => rfl) _ _
    simp only [m_spec_EscapeRoute_b1]
    cases x.1 != c.Junction with
    | false => rfl
    | true =>
      simp only [Bool.cond_true]
      refine LOOP_any (Q := fun r : List Int × Int × Int => r.2.2 = 0) (fun rec2 hrec2 y => ?_) (fun y => hrec _) _ _
      simp only [m_spec_EscapeRoute_b2]
      cases ((decide (0 ≤ (m_spec_l19Step m b c.Speed y x.1))) && (decide (0 ≤ (at' (m_spec_l19Times m arr b c t) y)))) && ((IntKind.wrap .i64 ((at' (m_spec_l19Times m arr b c t) y) + (m_spec_l19Step m b c.Speed y x.1))) == (at' (m_spec_l19Times m arr b c t) x.1)) with
      | true => exact hrec _
      | false => exact hrec2 _
theorem LastStart_is {m : gMine} {arr : List Int} {blocked : Int} {c : gCrew} {exits : List Int} (h0 : m_spec_l19Ask m arr blocked c 0 = 0) (hr : m_spec_l00Rises exits 0 (IntKind.wrap .i64 (m.Junctions - 1)) = true) : ∃ k : Int, (0 ≤ k ∧ k ≤ 36001) ∧ (∀ t, 0 ≤ t → t ≤ 36000 → (0 ≤ m_spec_l19Exit (m_spec_l19Times m arr blocked c t) exits ↔ t < k)) ∧ m_impl_LastStart m arr blocked c exits = if k = 36001 then (36000, 0) else if k = 0 then (0, 3) else (k - 1, 0) := by
  obtain ⟨h1, h2⟩ := escapeOfE m arr blocked c 0 exits
  simp only [m_impl_LastStart]
  have ha : (m_spec_l19Ask m arr blocked c 0 != 0) = false := by rw [h0]; rfl
  rw [ha, Bool.cond_false, hr] at h1
  simp only [Bool.not_true, Bool.cond_false] at h1
  rw [h1, h2 h1]
  have hi := l19Ask_imp h0
  have hex := exits_in hi.1 hr
  simp only [bne_self_eq_false, Bool.cond_false, m_impl_firstIn, m_impl_firstIn_1, m_impl_LastStart_1, m_impl_orNotFound]
  have e36 : IntKind.wrap .i64 (IntKind.wrap .i64 (36000 - 0) + 1) = 36001 := by decide
  simp only [e36]
  let f : Int → Bool := fun a0 => decide (m_impl_firstReached (m_impl_escape_times (gescape.mk m arr blocked) c (IntKind.wrap .i64 (0 + a0))) exits < 0)
  let T : Int → Prop := fun t => 0 ≤ m_spec_l19Exit (m_spec_l19Times m arr blocked c t) exits
  have hfT : ∀ a, 0 ≤ a → a < 36001 → (f a = false ↔ T a) := by
    intro a ha0 ha1
    show (decide (m_spec_l19Exit (m_impl_escape_times (gescape.mk m arr blocked) c (IntKind.wrap .i64 (0 + a))) exits < 0) = false) ↔ _
    rw [wr64 (n := 0 + a) (by omega), Int.zero_add, times_eq hi.1 hi.2.1 ⟨ha0, by omega⟩, decide_eq_false_iff_not, Int.not_lt]
  have hT : ∀ i j, 0 ≤ i → i ≤ j → j < 36001 → T j → T i := fun i j hi0 hij hj h => out_sooner hi.1 hi.2.1 hex hi0 hij (by omega) h
  have hS := search_is (n := 36001) ⟨by omega, by omega⟩ (f := f) (fun i j hi0 hij hj h => by
    cases hfj : f j with
    | true => rfl
    | false =>
      have := (hfT i hi0 (by omega)).2 (hT i j hi0 hij hj ((hfT j (by omega) hj).1 hfj))
      rw [h] at this; exact absurd this (by simp))
  change ∃ k : Int, (0 ≤ k ∧ k ≤ 36001) ∧ (∀ t, 0 ≤ t → t ≤ 36000 → (T t ↔ t < k)) ∧ (bif !decide (m_sort_Search 36001 f < 36001) then ((36000 : Int), (0 : Int)) else ((bif !(decide (0 < IntKind.wrap .i64 (0 + m_sort_Search 36001 f))) then ((0 : Int), (3 : Int)) else (IntKind.wrap .i64 (IntKind.wrap .i64 (0 + m_sort_Search 36001 f) - 1), 0)).1, (bif !(decide (0 < IntKind.wrap .i64 (0 + m_sort_Search 36001 f))) then ((0 : Int), (3 : Int)) else (IntKind.wrap .i64 (IntKind.wrap .i64 (0 + m_sort_Search 36001 f) - 1), 0)).2)) = _
  generalize m_sort_Search 36001 f = k at hS
  obtain ⟨hk0, hk1, hk2, hk3⟩ := hS
  rw [wr64 (n := 0 + k) (by omega), Int.zero_add, wr64 (n := k - 1) (by omega)]
  have hTk : ∀ t, 0 ≤ t → t ≤ 36000 → (T t ↔ t < k) := by
    intro t ht0 ht1
    constructor
    · intro h
      by_cases hlt : t < k
      · exact hlt
      · have := hk3 t (by omega) (by omega)
        rw [(hfT t ht0 (by omega)).2 h] at this; exact absurd this (by simp)
    · intro h; exact (hfT t ht0 (by omega)).1 (hk2 t ht0 h)
  refine ⟨k, ⟨hk0, by omega⟩, hTk, ?_⟩
  by_cases he : k = 36001
  · subst he; rfl
  · have hlt : k < 36001 := by omega
    simp only [hlt, he, decide_true, Bool.not_true, Bool.cond_false, if_false]
    by_cases hz : k = 0
    · subst hz; rfl
    · have hp : 0 < k := by omega
      simp only [hz, hp, decide_true, Bool.not_true, Bool.cond_false, if_false]
/-! ## A blocked airway never makes a way shorter -/
theorem swp_dec {J : Int} {safe : Int → Int → Bool} {v : Int} (hv0 : 0 ≤ v) : ∀ {es : List (Int × Int × Int)} {a : List Int}, (∀ e ∈ es, EdN J e) → (a.length : Int) = J → 0 ≤ at' a v → 0 ≤ at' (swp safe es a) v ∧ at' (swp safe es a) v ≤ at' a v
  | [], a, _, _, h => ⟨h, Int.le_refl _⟩
  | e :: es, a, hok, hl, h => by
    have h1 := rlx_dec (safe := safe) hl (hok e List.mem_cons_self) hv0 h
    have h2 := swp_dec (safe := safe) hv0 (es := es) (a := rlx safe e a) (fun x hx => hok x (List.mem_cons_of_mem _ hx)) (by rw [rlx_len]; exact hl) h1.1
    exact ⟨h2.1, Int.le_trans h2.2 h1.2⟩
theorem swps_dec {J : Int} {safe : Int → Int → Bool} {v : Int} (hv0 : 0 ≤ v) {es : List (Int × Int × Int)} (hok : ∀ e ∈ es, EdN J e) : ∀ (k : Nat) {a : List Int}, (a.length : Int) = J → 0 ≤ at' a v → 0 ≤ at' (swps safe es k a) v ∧ at' (swps safe es k a) v ≤ at' a v
  | 0, a, _, h => ⟨h, Int.le_refl _⟩
  | k + 1, a, hl, h => by
    have h1 := swp_dec (safe := safe) hv0 hok hl h
    have h2 := swps_dec (safe := safe) hv0 hok k (a := swp safe es a) (by rw [swp_len]; exact hl) h1.1
    exact ⟨h2.1, Int.le_trans h2.2 h1.2⟩
theorem cwEs_sub {m : gMine} {blocked speed : Int} : ∀ e ∈ cwEs m blocked speed, e ∈ cwEs m (-1) speed := fun e he => by
  rw [mem_cwEs] at he ⊢
  obtain ⟨k, ⟨h1, h2, h3⟩, h4⟩ := he
  exact ⟨k, ⟨h1, by omega, h3⟩, h4⟩
theorem swps_leng {safe : Int → Int → Bool} {es : List (Int × Int × Int)} : ∀ (k : Nat) (a : List Int), (swps safe es k a).length = a.length
  | 0, _ => rfl
  | k + 1, a => by rw [swps, swps_leng k, swp_len]
theorem blocked_sooner {m : gMine} {arr : List Int} {b : Int} {c : gCrew} (hm : MineIn m) (hc : CrewIn m c) {t : Int} (ht : 0 ≤ t ∧ t ≤ 36000) : Sooner m.Junctions (m_spec_l19Times m arr (-1) c t) (m_spec_l19Times m arr b c t) := by
  rw [specTimes_is hm hc ht, specTimes_is hm hc ht]
  cases !(cwSafe arr c.Junction t) with
  | true => exact fun v _ _ h => ⟨h, Int.le_refl _⟩
  | false =>
    simp only [Bool.cond_false]
    have h1 := cw_enough hm arr (-1) hc ht
    have hl : ((cwStart m c t).length : Int) = m.Junctions := h1.1.1
    have hN := cwEs_n hm (-1) hc.2
    have hNb := cwEs_n hm b hc.2
    have hyl : ((swps (cwSafe arr) (cwEs m (-1) c.Speed) m.Junctions.toNat (cwStart m c t)).length : Int) = m.Junctions := by rw [swps_leng]; exact hl
    have hfix : Fixd (cwSafe arr) (cwEs m b c.Speed) (swps (cwSafe arr) (cwEs m (-1) c.Speed) m.Junctions.toNat (cwStart m c t)) := fun e he => h1.2 e (cwEs_sub e he)
    have h2 : Sooner m.Junctions (swps (cwSafe arr) (cwEs m (-1) c.Speed) m.Junctions.toNat (cwStart m c t)) (cwStart m c t) := fun v hv0 _ h => swps_dec hv0 hN _ hl h
    have h3 := swps_sooner (cwSafe_mono arr) hNb m.Junctions.toNat hyl hl h2
    rwa [fix_swps hfix] at h3

end Go.Proofs.Ytlbpjgeoaiiamaa
