/-
  PLAIN LAWS about the models: no program in sight. Conditions: as each theorem states them.
-/
import Derived.Test.YtdkkcemlnjlebaaDoorVersionsPlain3
set_option linter.unusedVariables false
set_option linter.unusedSimpArgs false
set_option linter.unusedSectionVars false
set_option linter.unnecessarySimpa false
namespace Go.Proofs.YtdkkcemlnjlebaaDoor
open Go Go.RowKit Go.Proofs Go.Proofs.YtdkkcemlnjlebaaDoor.E
/-! ## FnVersions: the law -/
theorem law_FnVersions (code : List Int) (more : List Int) (hp1 : code.length ≤ 9223372036854775807 ∧ ∀ y ∈ code, 0 ≤ y ∧ y ≤ 255) (hp2 : more.length ≤ 9223372036854775807 ∧ ∀ y ∈ more, 0 ≤ y ∧ y ≤ 255) : m_laws_FnVersions code more = true := by
  have ha : DS (m_spec_R8State more) := (draw_state (Lim.from hp2.2)).1
  have hb : DS (m_spec_R8Changed code (m_spec_R8State more)) := (changed_state (Lim.from hp1.2) ha).1
  have hh : HD (m_spec_R8History code) ∧ (m_spec_R8History code).length ≤ 5 := draw_hist (Lim.from hp1.2)
  obtain ⟨⟨hv, hds⟩, hl5⟩ := hh
  have hw1 : IntKind.wrap .i64 (((m_spec_R8History code).length : Int) + 1) = ((m_spec_R8History code).length : Int) + 1 := wr64 (by omega)
  have hw2 : IntKind.wrap .i64 (((m_spec_R8History code).length : Int) + 1 + 1) = ((m_spec_R8History code).length : Int) + 1 + 1 := wr64 (by omega)
  have hw3 : IntKind.wrap .i64 (((m_spec_R8History code).length : Int) + 1 - 1) = ((m_spec_R8History code).length : Int) := by rw [wr64 (by omega)]; omega
  have hr := r8At_rng hp2.2 (k := 0) (n := ((m_spec_R8History code).length : Int) + 1) (by omega)
  have hwp : IntKind.wrap .i64 (m_laws_r8At more 0 (((m_spec_R8History code).length : Int) + 1) - 1) = m_laws_r8At more 0 (((m_spec_R8History code).length : Int) + 1) - 1 := wr64 (by omega)
  have hD2 : (m_impl_DiffStates (m_spec_R8State more) (m_spec_R8Changed code (m_spec_R8State more))).2 = 0 := by rw [diff_is ha hb]
  have hAp := apply_diff ha hb
  have hC := commit_is hv (by omega) (p := m_laws_r8At more 0 (((m_spec_R8History code).length : Int) + 1)) (by omega) (memo := [110, 101, 120, 116]) rfl ha.validI
  have hnx := hv.snoc (by omega) (p := m_laws_r8At more 0 (((m_spec_R8History code).length : Int) + 1)) (by omega) (memo := [110, 101, 120, 116]) rfl ha.valid
  have hlen : (m_spec_R8History code ++ ([gVersion.mk (((m_spec_R8History code).length : Int) + 1) (m_laws_r8At more 0 (((m_spec_R8History code).length : Int) + 1)) ([110, 101, 120, 116] : List UInt8) (m_spec_R8State more)] : List gVersion)).length = (m_spec_R8History code).length + 1 := by simp
  have hn : 1 ≤ ((m_spec_R8History code).length : Int) + 1 ∧ ((m_spec_R8History code).length : Int) + 1 ≤ (m_spec_R8History code ++ ([gVersion.mk (((m_spec_R8History code).length : Int) + 1) (m_laws_r8At more 0 (((m_spec_R8History code).length : Int) + 1)) ([110, 101, 120, 116] : List UInt8) (m_spec_R8State more)] : List gVersion)).length := by rw [hlen]; omega
  have hlast : at' (m_spec_R8History code ++ ([gVersion.mk (((m_spec_R8History code).length : Int) + 1) (m_laws_r8At more 0 (((m_spec_R8History code).length : Int) + 1)) ([110, 101, 120, 116] : List UInt8) (m_spec_R8State more)] : List gVersion)) ((m_spec_R8History code).length : Int) = gVersion.mk (((m_spec_R8History code).length : Int) + 1) (m_laws_r8At more 0 (((m_spec_R8History code).length : Int) + 1)) ([110, 101, 120, 116] : List UInt8) (m_spec_R8State more) := at_app_eq
  have hU := undo_is hnx hn (by rw [hlen]; omega)
  have hAn := anc_is hnx hn
  have hHd := heads_is hnx (by rw [hlen]; omega)
  have hCa := com_same hnx hn
  have hidx : ((m_spec_R8History code).length : Int) + 1 - 1 = ((m_spec_R8History code).length : Int) := by omega
  rw [hidx, hlast] at hU hAn
  have hst := vstate_at (list := m_spec_R8History code) (n := m_laws_r8At more 0 (((m_spec_R8History code).length : Int) + 1)) (by omega) (by omega) (v := gVersion.mk (((m_spec_R8History code).length : Int) + 1) (m_laws_r8At more 0 (((m_spec_R8History code).length : Int) + 1)) ([110, 101, 120, 116] : List UInt8) (m_spec_R8State more))
  have hvs := vstate_ok hnx (n := m_laws_r8At more 0 (((m_spec_R8History code).length : Int) + 1)) (by rw [hlen]; omega)
  have hnx2 := hnx.snoc (by rw [hlen]; omega) (p := ((m_spec_R8History code).length : Int) + 1) (by rw [hlen]; omega) (memo := ([117, 110, 100, 111, 32] : List UInt8) ++ (m_impl_Decimal (((m_spec_R8History code).length : Int) + 1))) (undo_memo (by omega)) hvs
  have htx := text_ne (v := gVersion.mk (((m_spec_R8History code).length : Int) + 1) (m_laws_r8At more 0 (((m_spec_R8History code).length : Int) + 1)) ([110, 101, 120, 116] : List UInt8) (m_spec_R8State more)) (by simp only; omega) (by simp only; omega) rfl ha.validI
  simp only [m_laws_FnVersions]
  cases m_laws_r8Long code more with
  | true => rfl
  | false =>
    have hm1 : ∀ x ∈ lineF (m_spec_R8History code ++ ([gVersion.mk (((m_spec_R8History code).length : Int) + 1) (m_laws_r8At more 0 (((m_spec_R8History code).length : Int) + 1)) ([110, 101, 120, 116] : List UInt8) (m_spec_R8State more)] : List gVersion)) (((m_spec_R8History code).length : Int) + 1).toNat (m_laws_r8At more 0 (((m_spec_R8History code).length : Int) + 1)), 1 ≤ x ∧ x ≤ m_laws_r8At more 0 (((m_spec_R8History code).length : Int) + 1) := line_mem hnx _ _ (by omega) (by rw [hlen]; omega)
    have hdn := line_down hnx (((m_spec_R8History code).length : Int) + 1).toNat (m_laws_r8At more 0 (((m_spec_R8History code).length : Int) + 1)) (by omega) (by rw [hlen]; omega)
    have hup : decide (0 < m_laws_r8At more 0 (((m_spec_R8History code).length : Int) + 1)) = m_laws_r8Has (lineF (m_spec_R8History code ++ ([gVersion.mk (((m_spec_R8History code).length : Int) + 1) (m_laws_r8At more 0 (((m_spec_R8History code).length : Int) + 1)) ([110, 101, 120, 116] : List UInt8) (m_spec_R8State more)] : List gVersion)) (((m_spec_R8History code).length : Int) + 1).toNat (m_laws_r8At more 0 (((m_spec_R8History code).length : Int) + 1))) (m_laws_r8At more 0 (((m_spec_R8History code).length : Int) + 1)) := by
      rw [Bool.eq_iff_iff, r8Has_iff, decide_eq_true_eq]
      constructor
      · intro h
        rw [show (((m_spec_R8History code).length : Int) + 1).toNat = (m_spec_R8History code).length + 1 by omega, lineF, if_pos h]
        exact List.mem_cons_self
      · intro h; have := hm1 _ h; omega
    have hok2 : m_spec_ValidHistory ((m_spec_R8History code ++ ([gVersion.mk (((m_spec_R8History code).length : Int) + 1) (m_laws_r8At more 0 (((m_spec_R8History code).length : Int) + 1)) ([110, 101, 120, 116] : List UInt8) (m_spec_R8State more)] : List gVersion)) ++ ([gVersion.mk (((m_spec_R8History code ++ ([gVersion.mk (((m_spec_R8History code).length : Int) + 1) (m_laws_r8At more 0 (((m_spec_R8History code).length : Int) + 1)) ([110, 101, 120, 116] : List UInt8) (m_spec_R8State more)] : List gVersion)).length : Int) + 1) (((m_spec_R8History code).length : Int) + 1) (([117, 110, 100, 111, 32] : List UInt8) ++ (m_impl_Decimal (((m_spec_R8History code).length : Int) + 1))) (m_impl_versionState (m_spec_R8History code ++ ([gVersion.mk (((m_spec_R8History code).length : Int) + 1) (m_laws_r8At more 0 (((m_spec_R8History code).length : Int) + 1)) ([110, 101, 120, 116] : List UInt8) (m_spec_R8State more)] : List gVersion)) (m_laws_r8At more 0 (((m_spec_R8History code).length : Int) + 1)))] : List gVersion)) = true := (hist_iff _).2 hnx2
    have hb1 : ∀ (v7 : List gSetting) (k : Int → Bool) , (∀ i, k i = true) → LOOP (m_laws_FnVersions_b1 code more v7) k ((((lineF (m_spec_R8History code ++ ([gVersion.mk (((m_spec_R8History code).length : Int) + 1) (m_laws_r8At more 0 (((m_spec_R8History code).length : Int) + 1)) ([110, 101, 120, 116] : List UInt8) (m_spec_R8State more)] : List gVersion)) (((m_spec_R8History code).length : Int) + 1).toNat (m_laws_r8At more 0 (((m_spec_R8History code).length : Int) + 1))).length : Int) - 0 : Int).toNat + 1) 0 = true := fun v7 k hk => by
      refine LOOP_is (fun (x : Int) => 0 ≤ x ∧ x ≤ (lineF (m_spec_R8History code ++ ([gVersion.mk (((m_spec_R8History code).length : Int) + 1) (m_laws_r8At more 0 (((m_spec_R8History code).length : Int) + 1)) ([110, 101, 120, 116] : List UInt8) (m_spec_R8State more)] : List gVersion)) (((m_spec_R8History code).length : Int) + 1).toNat (m_laws_r8At more 0 (((m_spec_R8History code).length : Int) + 1))).length) (fun x => (((lineF (m_spec_R8History code ++ ([gVersion.mk (((m_spec_R8History code).length : Int) + 1) (m_laws_r8At more 0 (((m_spec_R8History code).length : Int) + 1)) ([110, 101, 120, 116] : List UInt8) (m_spec_R8State more)] : List gVersion)) (((m_spec_R8History code).length : Int) + 1).toNat (m_laws_r8At more 0 (((m_spec_R8History code).length : Int) + 1))).length : Int) - x).toNat) (fun _ => true) (fun rec x hI ih => ?_) ⟨by omega, by omega⟩ (by omega)
      simp only [m_laws_FnVersions_b1, hw1, hC, hAn]
      generalize hX : lineF (m_spec_R8History code ++ ([gVersion.mk (((m_spec_R8History code).length : Int) + 1) (m_laws_r8At more 0 (((m_spec_R8History code).length : Int) + 1)) ([110, 101, 120, 116] : List UInt8) (m_spec_R8State more)] : List gVersion)) (((m_spec_R8History code).length : Int) + 1).toNat (m_laws_r8At more 0 (((m_spec_R8History code).length : Int) + 1)) = up at *
      by_cases hx : x < (up.length : Int)
      · have hm := hm1 _ (at_mem (xs := up) (i := x) ⟨hI.1, hx⟩)
        have b1 : decide (at' up x < 1) = false := decide_eq_false (by omega)
        have b2 : decide (((m_spec_R8History code).length : Int) + 1 ≤ at' up x) = false := decide_eq_false (by omega)
        have b3 : (decide (0 < x) && decide (at' up (x - 1) ≤ at' up x)) = false := by
          by_cases h0 : 0 < x
          · have e1 : at' up (x - 1) = up[(x - 1).toNat]'(by omega) := by have := at_lt (xs := up) (j := (x - 1).toNat) (by omega); rwa [Int.toNat_of_nonneg (by omega)] at this
            have e2 : at' up x = up[x.toNat]'(by omega) := by have := at_lt (xs := up) (j := x.toNat) (by omega); rwa [Int.toNat_of_nonneg (by omega)] at this
            have := List.pairwise_iff_getElem.1 hdn (x - 1).toNat x.toNat (by omega) (by omega) (by omega)
            rw [← e1, ← e2] at this
            rw [decide_eq_false (show ¬ at' up (x - 1) ≤ at' up x by omega), Bool.and_false]
          · simp [h0]
        simp only [hx, decide_true, Bool.cond_true, b1, b2, b3, Bool.or_self, Bool.cond_false]
        exact ih _ ⟨by omega, by omega⟩ (by omega)
      · simp only [hx, decide_false, Bool.cond_false]
        exact hk _
    have hat2 : ∀ v, at' ((m_spec_R8History code ++ ([gVersion.mk (((m_spec_R8History code).length : Int) + 1) (m_laws_r8At more 0 (((m_spec_R8History code).length : Int) + 1)) ([110, 101, 120, 116] : List UInt8) (m_spec_R8State more)] : List gVersion)) ++ ([v] : List gVersion)) (((m_spec_R8History code).length : Int) + 1) = v := fun v => by
      have := at_app_eq (xs := m_spec_R8History code ++ ([gVersion.mk (((m_spec_R8History code).length : Int) + 1) (m_laws_r8At more 0 (((m_spec_R8History code).length : Int) + 1)) ([110, 101, 120, 116] : List UInt8) (m_spec_R8State more)] : List gVersion)) (y := v)
      rw [hlen] at this
      exact this
    have hlen2 : (((m_spec_R8History code ++ ([gVersion.mk (((m_spec_R8History code).length : Int) + 1) (m_laws_r8At more 0 (((m_spec_R8History code).length : Int) + 1)) ([110, 101, 120, 116] : List UInt8) (m_spec_R8State more)] : List gVersion)).length : Nat) : Int) = ((m_spec_R8History code).length : Int) + 1 := by rw [hlen]; omega
    have hHd2 := hHd.2
    rw [hlen2] at hHd2
    have hlen3 : ∀ v, ((((m_spec_R8History code ++ ([gVersion.mk (((m_spec_R8History code).length : Int) + 1) (m_laws_r8At more 0 (((m_spec_R8History code).length : Int) + 1)) ([110, 101, 120, 116] : List UInt8) (m_spec_R8State more)] : List gVersion)) ++ ([v] : List gVersion)).length : Nat) : Int) = ((m_spec_R8History code).length : Int) + 1 + 1 := fun v => by rw [List.length_append, hlen]; simp
    simp only [hlen2, hst] at hok2
    simp only [hw1, hw2, hw3, hwp, hD2, hAp, hC, hU, hAn, hHd.1, hHd2, hCa, hok2, hlen2, hlen3, hlast, hat2, ← hup, m_spec_SameState, same_refl, bne_self_eq_false, Bool.not_true, Bool.or_self, Bool.cond_false, JN, hst]
    cases hpp : decide (0 < m_laws_r8At more 0 (((m_spec_R8History code).length : Int) + 1)) with
    | true =>
      simp only [Bool.cond_true, same_refl, bne_self_eq_false, Bool.not_true, Bool.or_self, Bool.cond_false]
      exact hb1 _ _ fun _ => htx
    | false =>
      simp only [Bool.cond_false, same_refl, bne_self_eq_false, Bool.not_true, Bool.or_self]
      exact hb1 _ _ fun _ => htx

end Go.Proofs.YtdkkcemlnjlebaaDoor
