/-
  PLAIN LAWS about the models: no program in sight. Conditions: as each theorem states them.
-/
import Derived.Test.YtlbpjgeoaiiamaaRoutesPlain27
set_option linter.unusedVariables false
set_option linter.unusedSimpArgs false
set_option linter.unusedSectionVars false
set_option linter.unnecessarySimpa false
namespace Go.Proofs.Ytlbpjgeoaiiamaa
open Go Go.RowKit Go.Proofs Go.Proofs.Ytlbpjgeoaiiamaa.E
/-! ## The law of routes -/
theorem bif_ff {c x : Bool} (hc : c = false) (h : x = true) : (bif c then false else x) = true := by rw [hc]; exact h
theorem esc_is {m : gMine} {arr : List Int} {c : gCrew} (h : Rt m arr c) {b : Int} (hb : -1 ≤ b ∧ b < m.Airways.length) : m_impl_EscapeTimes m arr b c 0 = (m_spec_l19Times m arr b c 0, 0) := by
  have h1 := escapeOf1 m arr b c 0
  have h0 := h.ask hb (t := 0) (by omega)
  rw [h0] at h1
  simp only [m_impl_EscapeTimes, h1.1, h1.2 rfl, bne_self_eq_false, Bool.cond_false]
  rw [times_eq h.M h.C (by omega)]
theorem times_leng {m : gMine} {arr : List Int} {c : gCrew} (h : Rt m arr c) (b : Int) : ((m_spec_l19Times m arr b c 0).length : Int) = m.Junctions := (times_SmB (arr := arr) (blocked := b) h.M h.C (start := 0) (by omega)).1
theorem walk_law {a : gAirway} {J s : Int} (hv : m_impl_ValidAirway a = true) (ha : AirIn J a) (hs : 10 ≤ s ∧ s ≤ 300) : ((((m_impl_WalkTime a s).2 == 0) && (decide ((IntKind.wrap .i64 (100 * a.Length)) ≤ (IntKind.wrap .i64 ((m_impl_WalkTime a s).1 * s))))) && (decide ((IntKind.wrap .i64 ((IntKind.wrap .i64 ((m_impl_WalkTime a s).1 - 1)) * s)) < (IntKind.wrap .i64 (100 * a.Length))))) = true := by
  unfold AirIn at ha
  have hw : m_impl_within s 10 300 = true := by simp only [m_impl_within, Bool.and_eq_true, decide_eq_true_eq]; exact hs
  have hL : IntKind.wrap .i64 (100 * a.Length) = 100 * a.Length := wr64 (by omega)
  have e : m_impl_Airway_walkTime a s = upQ (100 * a.Length) s := by
    simp only [m_impl_Airway_walkTime]
    rw [hL, up_is (by omega) (by omega)]
  simp only [m_impl_WalkTime, hv, hw, Bool.not_true, Bool.cond_false, e, hL]
  have h1 := up_low (a := 100 * a.Length) (q := s) (by omega)
  have h0 := up_nonneg (a := 100 * a.Length) (q := s) (by omega) (by omega)
  have h2 : upQ (100 * a.Length) s ≤ 1000000 := (up_iff (by omega)).2 (by omega)
  have h3 : ¬ (100 * a.Length ≤ (upQ (100 * a.Length) s - 1) * s) := fun h => by
    have := (up_iff (a := 100 * a.Length) (q := s) (v := upQ (100 * a.Length) s - 1) (by omega)).2 h
    omega
  have b1 : upQ (100 * a.Length) s * s ≤ 1000000 * s := Int.mul_le_mul_of_nonneg_right h2 (by omega)
  have b2 : 0 ≤ upQ (100 * a.Length) s * s := Int.mul_nonneg h0 (by omega)
  rw [Int.sub_mul] at h3
  rw [wr64 (n := upQ (100 * a.Length) s - 1) (by omega), Int.sub_mul, wr64 (n := upQ (100 * a.Length) s * s) (by omega), wr64 (n := upQ (100 * a.Length) s * s - 1 * s) (by omega)]
  simp only [beq_self_eq_true, Bool.true_and, Bool.and_eq_true, decide_eq_true_eq]
  omega
theorem start_law {m : gMine} {arr : List Int} {c : gCrew} (h : Rt m arr c) {b : Int} (hb : -1 ≤ b ∧ b < m.Airways.length) (j : Bool) (hj : j = true) : (bif (m_impl_LastStart m arr b c ([0] : List Int)).2 == 0 then bif ((((m_spec_EscapeRoute m arr b c (m_impl_LastStart m arr b c ([0] : List Int)).1 ([0] : List Int)).2.2 != 0) || (decide ((m_impl_LastStart m arr b c ([0] : List Int)).1 < 0))) || (decide (36000 < (m_impl_LastStart m arr b c ([0] : List Int)).1))) || ((decide ((m_impl_LastStart m arr b c ([0] : List Int)).1 < 36000)) && ((m_spec_EscapeRoute m arr b c (IntKind.wrap .i64 ((m_impl_LastStart m arr b c ([0] : List Int)).1 + 1)) ([0] : List Int)).2.2 != 3)) then false else j else bif (m_impl_LastStart m arr b c ([0] : List Int)).2 != 3 then false else j) = true := by
  have hr := rises0 h.M.1
  obtain ⟨k, ⟨hk0, hk1⟩, hT, hL⟩ := LastStart_is (h.ask hb (t := 0) (by omega)) hr
  rw [hL]
  by_cases he : k = 36001
  · subst he
    simp only [if_true, beq_self_eq_true, Bool.cond_true]
    refine bif_ff ?_ hj
    rw [route_code (h.ask hb (t := 36000) (by omega)) hr, if_pos ((hT 36000 (by omega) (by omega)).2 (by omega))]
    rfl
  · rw [if_neg he]
    by_cases hz : k = 0
    · subst hz
      simp only [if_true]
      exact bif_ff rfl hj
    · rw [if_neg hz]
      simp only [beq_self_eq_true, Bool.cond_true]
      refine bif_ff ?_ hj
      rw [wr64 (n := k - 1 + 1) (by omega), show k - 1 + 1 = k by omega, route_code (h.ask hb (t := k - 1) (by omega)) hr, if_pos ((hT (k - 1) (by omega) (by omega)).2 (by omega))]
      have g1 : ¬ k - 1 < 0 := by omega
      have g2 : ¬ 36000 < k - 1 := by omega
      simp only [g1, g2, decide_false, bne_self_eq_false, Bool.or_self, Bool.false_or]
      rw [route_code (h.ask hb (t := k) (by omega)) hr, if_neg (fun hx => by have := (hT k (by omega) (by omega)).1 hx; omega)]
      simp
theorem esc_len {code more : List Int} (hc : ∀ y ∈ code, 0 ≤ y ∧ y ≤ 255) (hm : ∀ y ∈ more, 0 ≤ y ∧ y ≤ 255) (h0 : 0 < (m_spec_R8Mine code).Airways.length) : (m_impl_EscapeTimes (m_spec_R8Mine code) (m_spec_ArrivalOf (m_spec_R8Mine code) (m_spec_R8Flows more (m_spec_R8Mine code)) (m_spec_R8Fire more (m_spec_R8Mine code))).1 (m_spec_R8Fire more (m_spec_R8Mine code)).Airway (m_spec_R8Crew more (m_spec_R8Mine code)) 0).1.length ≤ 16 := by
  have h := rt_of hc hm h0
  have hf := fire_in hm (r8mine_in hc) h0
  rw [esc_is h ⟨by have := hf.1; omega, hf.1.2⟩]
  have := times_leng h (m_spec_R8Fire more (m_spec_R8Mine code)).Airway
  have := h.M.1
  simp only; omega
theorem law_FnRoutes (code : List Int) (more : List Int) (hp1 : code.length ≤ 9223372036854775807 ∧ ∀ y ∈ code, 0 ≤ y ∧ y ≤ 255) (hp2 : more.length ≤ 9223372036854775807 ∧ ∀ y ∈ more, 0 ≤ y ∧ y ≤ 255) : m_laws_FnRoutes code more = true := by
  have hc := hp1.2
  have hm := hp2.2
  simp only [m_laws_FnRoutes, JN]
  cases m_laws_r8Long code more with
  | true => rfl
  | false =>
    simp only [Bool.cond_false]
    by_cases h0 : (m_spec_R8Mine code).Airways.length = 0
    · rw [h0]; rfl
    · have e0 : (((m_spec_R8Mine code).Airways.length : Int) == 0) = false := beq_eq_false_iff_ne.2 (by omega)
      rw [e0]
      simp only [Bool.cond_false]
      have h := rt_of hc hm (by omega)
      have hf := fire_in hm (r8mine_in hc) (by omega)
      have hk := r8At_rng hm (k := 0) (n := ((m_spec_R8Mine code).Airways.length : Int)) (by omega)
      have hg : GoodM (m_spec_R8Mine code) := draw4_good (Lim.from hc)
      have hw := at_all hg.A.ok (i := m_laws_r8At more 0 ((m_spec_R8Mine code).Airways.length : Int)) ⟨hk.1, hk.2⟩
      refine start_law h ⟨by have := hf.1; omega, hf.1.2⟩ _ ?_
      have e1 := esc_is h (b := (m_spec_R8Fire more (m_spec_R8Mine code)).Airway) ⟨by have := hf.1; omega, hf.1.2⟩
      have e2 := esc_is h (b := -1) (by omega)
      have l1 := times_leng h (m_spec_R8Fire more (m_spec_R8Mine code)).Airway
      have l2 := times_leng h (-1)
      have hS := blocked_sooner (arr := (m_spec_ArrivalOf (m_spec_R8Mine code) (m_spec_R8Flows more (m_spec_R8Mine code)) (m_spec_R8Fire more (m_spec_R8Mine code))).1) (b := (m_spec_R8Fire more (m_spec_R8Mine code)).Airway) h.M h.C (t := 0) (by omega)
      refine bif_ff ?_ ?_
      · rw [e1, e2]
        simp only [l1, l2, bne_self_eq_false, Bool.or_self]
      · rw [(LOOP_all (b := m_laws_FnRoutes_b1 code more ()) (n := (m_impl_EscapeTimes (m_spec_R8Mine code) (m_spec_ArrivalOf (m_spec_R8Mine code) (m_spec_R8Flows more (m_spec_R8Mine code)) (m_spec_R8Fire more (m_spec_R8Mine code))).1 (m_spec_R8Fire more (m_spec_R8Mine code)).Airway (m_spec_R8Crew more (m_spec_R8Mine code)) 0).1.length) (fun rec k i _ => rfl) _ 0 (by omega) (by omega) (by omega))]
        refine ⟨fun j _ hj => ?_, walk_law hw.2 hw.1 h.C.2⟩
        rw [e1] at hj ⊢
        rw [e2]
        simp only at hj ⊢
        have hs := hS (j : Int) (by omega) (by omega)
        generalize at' (m_spec_l19Times (m_spec_R8Mine code) (m_spec_ArrivalOf (m_spec_R8Mine code) (m_spec_R8Flows more (m_spec_R8Mine code)) (m_spec_R8Fire more (m_spec_R8Mine code))).1 (m_spec_R8Fire more (m_spec_R8Mine code)).Airway (m_spec_R8Crew more (m_spec_R8Mine code)) 0) (j : Int) = u at hs ⊢
        generalize at' (m_spec_l19Times (m_spec_R8Mine code) (m_spec_ArrivalOf (m_spec_R8Mine code) (m_spec_R8Flows more (m_spec_R8Mine code)) (m_spec_R8Fire more (m_spec_R8Mine code))).1 (-1) (m_spec_R8Crew more (m_spec_R8Mine code)) 0) (j : Int) = v at hs ⊢
        by_cases hu : 0 ≤ u
        · have := hs hu
          have g1 : ¬ v < 0 := by omega
          have g2 : ¬ u < v := by omega
          simp [g1, g2]
        · simp [hu]

end Go.Proofs.Ytlbpjgeoaiiamaa
