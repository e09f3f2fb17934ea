/-
  PLAIN LAWS about the models: no program in sight. Conditions: as each theorem states them.
-/
import Derived.Test.YtfiedbefaoeoaaaMixingPlain17
set_option linter.unusedVariables false
set_option linter.unusedSimpArgs false
set_option linter.unusedSectionVars false
set_option linter.unnecessarySimpa false
namespace Go.Proofs.Ytfiedbefaoeoaaa
open Go Go.RowKit Go.Proofs Go.Proofs.Ytfiedbefaoeoaaa.E
/-! ## The law of mixing -/
theorem bif_ff {c x : Bool} (hc : c = false) (h : x = true) : (bif c then false else x) = true := by rw [hc]; exact h
theorem mix_tail {code more : List Int} (hc : ∀ y ∈ code, 0 ≤ y ∧ y ≤ 255) (hm : ∀ y ∈ more, 0 ≤ y ∧ y ≤ 255) (x1 : (List Int) × (List Int) × Int × Int × Int) : (bif (((((m_impl_JunctionShares (m_spec_R8Mine more) (m_spec_R8Flows code (m_spec_R8Mine more)) (m_spec_R8Sources code (m_spec_R8Mine more))).2 != 0) || (((m_impl_JunctionShares (m_spec_R8Mine more) (m_spec_R8Flows code (m_spec_R8Mine more)) (m_spec_R8Sources code (m_spec_R8Mine more))).1.length : Int) != (m_spec_R8Mine more).Junctions)) || ((m_impl_AirwayShares (m_spec_R8Mine more) (m_spec_R8Flows code (m_spec_R8Mine more)) (m_spec_R8Sources code (m_spec_R8Mine more))).2 != 0)) || (((m_impl_AirwayShares (m_spec_R8Mine more) (m_spec_R8Flows code (m_spec_R8Mine more)) (m_spec_R8Sources code (m_spec_R8Mine more))).1.length : Int) != ((m_spec_R8Flows code (m_spec_R8Mine more)).length : Int))) || ((m_impl_OverLimit (m_spec_R8Mine more) (m_spec_R8Flows code (m_spec_R8Mine more)) (m_spec_R8Sources code (m_spec_R8Mine more)) (m_laws_r8Wide more 0 30000)).2 != 0) then false else LOOP (m_laws_FnMixing_b2 code more x1) (fun (x2 : Int) => bif ((m_impl_AirwayShares (m_spec_R8Mine more) (m_spec_R8Flows code (m_spec_R8Mine more)) (m_spec_R8Sources code (m_spec_R8Mine more))).1.length : Int) == 0 then (m_impl_WorstAirway (m_spec_R8Mine more) (m_spec_R8Flows code (m_spec_R8Mine more)) (m_spec_R8Sources code (m_spec_R8Mine more))).2.2 == 3 else bif ((((m_impl_WorstAirway (m_spec_R8Mine more) (m_spec_R8Flows code (m_spec_R8Mine more)) (m_spec_R8Sources code (m_spec_R8Mine more))).2.2 != 0) || (decide ((m_impl_WorstAirway (m_spec_R8Mine more) (m_spec_R8Flows code (m_spec_R8Mine more)) (m_spec_R8Sources code (m_spec_R8Mine more))).1 < 0))) || (decide (((m_impl_AirwayShares (m_spec_R8Mine more) (m_spec_R8Flows code (m_spec_R8Mine more)) (m_spec_R8Sources code (m_spec_R8Mine more))).1.length : Int) ≤ (m_impl_WorstAirway (m_spec_R8Mine more) (m_spec_R8Flows code (m_spec_R8Mine more)) (m_spec_R8Sources code (m_spec_R8Mine more))).1))) || ((at' (m_impl_AirwayShares (m_spec_R8Mine more) (m_spec_R8Flows code (m_spec_R8Mine more)) (m_spec_R8Sources code (m_spec_R8Mine more))).1 (m_impl_WorstAirway (m_spec_R8Mine more) (m_spec_R8Flows code (m_spec_R8Mine more)) (m_spec_R8Sources code (m_spec_R8Mine more))).1) != (m_impl_WorstAirway (m_spec_R8Mine more) (m_spec_R8Flows code (m_spec_R8Mine more)) (m_spec_R8Sources code (m_spec_R8Mine more))).2.1) then false else bif ((m_impl_JunctionShares (m_spec_R8Mine more) (m_spec_R8Flows code (m_spec_R8Mine more)) ((([] : List gSource) ++ (m_spec_R8Sources code (m_spec_R8Mine more))) ++ ([gSource.mk ([122, 122] : List UInt8) (m_laws_r8At more 4 ((m_impl_AirwayShares (m_spec_R8Mine more) (m_spec_R8Flows code (m_spec_R8Mine more)) (m_spec_R8Sources code (m_spec_R8Mine more))).1.length : Int)) 5000] : List gSource))).2 != 0) || (((m_impl_JunctionShares (m_spec_R8Mine more) (m_spec_R8Flows code (m_spec_R8Mine more)) ((([] : List gSource) ++ (m_spec_R8Sources code (m_spec_R8Mine more))) ++ ([gSource.mk ([122, 122] : List UInt8) (m_laws_r8At more 4 ((m_impl_AirwayShares (m_spec_R8Mine more) (m_spec_R8Flows code (m_spec_R8Mine more)) (m_spec_R8Sources code (m_spec_R8Mine more))).1.length : Int)) 5000] : List gSource))).1.length : Int) != ((m_impl_JunctionShares (m_spec_R8Mine more) (m_spec_R8Flows code (m_spec_R8Mine more)) (m_spec_R8Sources code (m_spec_R8Mine more))).1.length : Int)) then false else LOOP (m_laws_FnMixing_b3 code more x1 x2) (fun (x3 : Int) => true) ((((m_impl_JunctionShares (m_spec_R8Mine more) (m_spec_R8Flows code (m_spec_R8Mine more)) (m_spec_R8Sources code (m_spec_R8Mine more))).1.length : Int) - 0 : Int).toNat + 1) 0) ((((m_impl_AirwayShares (m_spec_R8Mine more) (m_spec_R8Flows code (m_spec_R8Mine more)) (m_spec_R8Sources code (m_spec_R8Mine more))).1.length : Int) - 0 : Int).toNat + 1) 0) = true := by
  have hM := r8mine_in hm
  have hV := r8mine_ok hm
  have hF := r8flows_in hc hm
  have hG := sources_good hc hM
  have hS := hG.valid hV
  have hO := hG.src
  have hw := r8Wide_rng hm (k := 0) (n := 30000) (by omega)
  have ho := over_is hS hF (s := m_laws_r8Wide more 0 30000) (by omega)
  have hW := worst_is hS hF
  have hJl := shares_lenI (list := m_spec_R8Sources code (m_spec_R8Mine more)) hM hF
  have hJi := shares_in hM hF hO
  have hEl := endShares_len (m := m_spec_R8Mine more) hF (list := m_spec_R8Sources code (m_spec_R8Mine more)) (js := m_impl_Mine_junctionShares (m_spec_R8Mine more) (m_spec_R8Flows code (m_spec_R8Mine more)) (m_spec_R8Sources code (m_spec_R8Mine more)))
  have hFl := hF.1
  have hja := junc_is hS hF
  have hea := ends_is hS hF
  refine bif_ff ?_ ?_
  · rw [hja, hea, ho.1]
    simp only [hEl, hFl, hJl, bne_self_eq_false, Bool.or_self]
  · rw [(LOOP_all (b := m_laws_FnMixing_b2 code more x1) (n := (m_impl_AirwayShares (m_spec_R8Mine more) (m_spec_R8Flows code (m_spec_R8Mine more)) (m_spec_R8Sources code (m_spec_R8Mine more))).1.length) (fun rec k i _ => rfl) _ 0 (by omega) (by omega) (by omega))]
    refine ⟨fun j _ hj => ?_, ?_⟩
    · have hjl : (j : Int) < (m_spec_R8Mine more).Airways.length := by rw [hea, hEl] at hj; omega
      rw [hea, ho.2 j (by omega) hjl, gasOf_code hS hO ⟨by omega, hjl⟩]
      simp only
      have hr := end_rng hM hF hO hJi (i := (j : Int)) ⟨by omega, hjl⟩
      have hz := end_is hM hF hO hJi (i := (j : Int)) ⟨by omega, hjl⟩
      have hg := gasL_rng hO.2 (j : Int)
      rw [end_at _ _ _ _ ⟨by omega, hjl⟩, bne_self_eq_false, bne_self_eq_false]
      generalize endOf (m_spec_R8Mine more) (m_spec_R8Flows code (m_spec_R8Mine more)) (m_spec_R8Sources code (m_spec_R8Mine more)) (m_impl_Mine_junctionShares (m_spec_R8Mine more) (m_spec_R8Flows code (m_spec_R8Mine more)) (m_spec_R8Sources code (m_spec_R8Mine more))) (j : Int) = e at hr hz ⊢
      have g1 : ¬ e < 0 := by omega
      have g2 : ¬ 1000000 < e := by omega
      have g3 : ¬ gasL (m_spec_R8Sources code (m_spec_R8Mine more)) (j : Int) < 0 := by omega
      simp only [g1, g2, g3, decide_false, Bool.or_self, Bool.false_or]
      rcases hz with ⟨z1, z2⟩ | ⟨z1, _⟩
      · have : decide (0 < e) = decide (0 < gasL (m_spec_R8Sources code (m_spec_R8Mine more)) (j : Int)) := by
          rw [z2]; split <;> simp [*]
        rw [this, bne_self_eq_false, Bool.and_false]
      · have : (at' (m_spec_R8Flows code (m_spec_R8Mine more)) (j : Int) == 0) = false := by simpa using z1
        rw [this, Bool.false_and]
    · have hl : (m_impl_AirwayShares (m_spec_R8Mine more) (m_spec_R8Flows code (m_spec_R8Mine more)) (m_spec_R8Sources code (m_spec_R8Mine more))).1.length = (m_spec_R8Mine more).Airways.length := by rw [hea]; exact hEl
      rw [hl]
      by_cases h0 : (m_spec_R8Mine more).Airways.length = 0
      · rw [hW.1 h0, h0]; rfl
      · have e : (((m_spec_R8Mine more).Airways.length : Int) == 0) = false := beq_eq_false_iff_ne.2 (by omega)
        have hW2 := hW.2 (by omega)
        rw [e]
        simp only [Bool.cond_false]
        refine bif_ff ?_ ?_
        · rw [hea, hW2.1]
          have g1 : ¬ (m_impl_WorstAirway (m_spec_R8Mine more) (m_spec_R8Flows code (m_spec_R8Mine more)) (m_spec_R8Sources code (m_spec_R8Mine more))).1 < 0 := by omega
          have g2 : ¬ ((m_spec_R8Mine more).Airways.length : Int) ≤ (m_impl_WorstAirway (m_spec_R8Mine more) (m_spec_R8Flows code (m_spec_R8Mine more)) (m_spec_R8Sources code (m_spec_R8Mine more))).1 := by omega
          simp only [g1, g2, hW2.2.2, decide_false, bne_self_eq_false, Bool.or_self]
        · have hk := r8At_rng hm (k := 4) (n := ((m_spec_R8Mine more).Airways.length : Int)) (by omega)
          rw [List.nil_append]
          have hSz := hG.validzz hV hM hk
          have hOz := hG.srczz (k := m_laws_r8At more 4 ((m_spec_R8Mine more).Airways.length : Int))
          have hjz := junc_is hSz hF
          have hzl := shares_lenI (list := m_spec_R8Sources code (m_spec_R8Mine more) ++ [gSource.mk ([122, 122] : List UInt8) (m_laws_r8At more 4 ((m_spec_R8Mine more).Airways.length : Int)) 5000]) hM hF
          have hmono := shares_mono hM hF hO hOz (fun k => by rw [gasL_app]; simp only [gasL]; split <;> omega)
          refine bif_ff ?_ ?_
          · rw [hjz, hja]
            simp only [hzl, hJl, bne_self_eq_false, Bool.or_self]
          · rw [(LOOP_all (b := m_laws_FnMixing_b3 code more x1 ((m_spec_R8Mine more).Airways.length : Int)) (n := (m_impl_JunctionShares (m_spec_R8Mine more) (m_spec_R8Flows code (m_spec_R8Mine more)) (m_spec_R8Sources code (m_spec_R8Mine more))).1.length) (fun rec k i _ => rfl) _ 0 (by omega) (by omega) (by omega))]
            refine ⟨fun j _ hj => ?_, rfl⟩
            have hjl : (j : Int) < (m_spec_R8Mine more).Junctions := by rw [hja] at hj; simp only at hj; omega
            rw [hl, List.nil_append, hjz, hja]
            simp only
            have hr := hJi j (by omega) hjl
            have hr2 := shares_in hM hF hOz j (by omega) hjl
            have hr3 := hmono j (by omega) hjl
            generalize at' (m_impl_Mine_junctionShares (m_spec_R8Mine more) (m_spec_R8Flows code (m_spec_R8Mine more)) (m_spec_R8Sources code (m_spec_R8Mine more))) (j : Int) = u at hr hr3 ⊢
            generalize at' (m_impl_Mine_junctionShares (m_spec_R8Mine more) (m_spec_R8Flows code (m_spec_R8Mine more)) (m_spec_R8Sources code (m_spec_R8Mine more) ++ [gSource.mk ([122, 122] : List UInt8) (m_laws_r8At more 4 ((m_spec_R8Mine more).Airways.length : Int)) 5000])) (j : Int) = v at hr2 hr3 ⊢
            have g1 : ¬ v < u := by omega
            have g2 : ¬ u < 0 := by omega
            have g3 : ¬ 1000000 < v := by omega
            simp only [g1, g2, g3, decide_false, Bool.or_self]
theorem mixFlows_in {fs ss : List Int} {lo hi : Int} (hlo : 0 ≤ lo) (hle : 0 ≤ hi) (hhi : hi ≤ 1000000) (hf : FlOk fs) (hs : ShIn lo hi ss) (hl : fs.length = ss.length) (h0 : 0 < fs.length) : (m_impl_MixFlows fs ss).2 = 0 ∧ lo ≤ (m_impl_MixFlows fs ss).1 ∧ (m_impl_MixFlows fs ss).1 ≤ hi := by
  have h1 : m_impl_allWithin fs 0 100000 = true := allWithin_iff.2 fun y hy => by have := hf.2 y hy; omega
  have h2 : m_impl_allWithin ss 0 1000000 = true := allWithin_iff.2 fun y hy => by have := hs y hy; omega
  have h64 := hf.1
  have h3 : (((fs.length : Int) != (ss.length : Int)) || (decide (64 < (fs.length : Int)))) = false := by
    rw [hl]; simp; omega
  have h4 := mix_rng hlo hle hhi hf hs hl
  simp only [m_impl_MixFlows, h1, h2, h3, Bool.not_true, Bool.or_self, Bool.cond_false]
  exact ⟨trivial, h4.2.2 h0, h4.2.1⟩
theorem law_FnMixing (code : List Int) (more : List Int) (hp1 : code.length ≤ 9223372036854775807 ∧ ∀ y ∈ code, 0 ≤ y ∧ y ≤ 255) (hp2 : more.length ≤ 9223372036854775807 ∧ ∀ y ∈ more, 0 ≤ y ∧ y ≤ 255) : m_laws_FnMixing code more = true := by
  have hc := hp1.2
  have hm := hp2.2
  have hN := r8At_rng hc (k := 0) (n := 5) (by omega)
  have hNw : IntKind.wrap .i64 (1 + m_laws_r8At code 0 5) = 1 + m_laws_r8At code 0 5 := wr64 (by omega)
  have tail := mix_tail hc hm
  simp only [m_laws_FnMixing, JN]
  cases m_laws_r8Long code more with
  | true => rfl
  | false =>
    simp only [Bool.cond_false]
    refine LOOP_post (fun (x : (List Int) × (List Int) × Int × Int × Int) => ((0 ≤ x.2.2.2.2 ∧ x.2.2.2.2 ≤ 1 + m_laws_r8At code 0 5) ∧ (x.1.length : Int) = x.2.2.2.2 ∧ (x.2.1.length : Int) = x.2.2.2.2) ∧ ((0 ≤ x.2.2.1 ∧ x.2.2.1 ≤ 1000000) ∧ 0 ≤ x.2.2.2.1 ∧ x.2.2.2.1 ≤ 1000000) ∧ (∀ y ∈ x.1, 1 ≤ y ∧ y ≤ 100000) ∧ ShIn x.2.2.1 x.2.2.2.1 x.2.1) (fun x => (1 + m_laws_r8At code 0 5 - x.2.2.2.2).toNat) (fun _ (r : Bool) => r = true) (fun rec x hI ih => ?_) _ _ ⟨by simp; omega, by simp, fun y hy => by simp at hy, fun y hy => by simp at hy⟩ (by simp only [hNw]; omega)
    obtain ⟨fs, ss, lo, hi, k⟩ := x
    obtain ⟨⟨⟨h0, h1⟩, h2, h3⟩, ⟨⟨h4, h5⟩, h6, h7⟩, h8, h9⟩ := hI
    simp only at h0 h1 h2 h3 h4 h5 h6 h7 h8 h9
    simp only [m_laws_FnMixing_b1, hNw]
    by_cases hk : k < 1 + m_laws_r8At code 0 5
    · simp only [hk, decide_true, Bool.cond_true]
      have f1 := r8Wide_rng hc (k := IntKind.wrap .i64 (1 + IntKind.wrap .i64 (4 * k))) (n := 5000) (by omega)
      have f2 := r8Wide_rng hc (k := IntKind.wrap .i64 (3 + IntKind.wrap .i64 (4 * k))) (n := 60000) (by omega)
      have e : at' (ss ++ ([m_laws_r8Wide code (IntKind.wrap .i64 (3 + IntKind.wrap .i64 (4 * k))) 60000] : List Int)) k = m_laws_r8Wide code (IntKind.wrap .i64 (3 + IntKind.wrap .i64 (4 * k))) 60000 := by
        rw [← h3, at_app_last]
      rw [e]
      generalize m_laws_r8Wide code (IntKind.wrap .i64 (3 + IntKind.wrap .i64 (4 * k))) 60000 = s at f2 ⊢
      rw [wr64 (n := 1 + m_laws_r8Wide code (IntKind.wrap .i64 (1 + IntKind.wrap .i64 (4 * k))) 5000) (by omega)]
      refine ih _ ⟨⟨by simp only; omega, by simp only [List.length_append, List.length_cons, List.length_nil]; omega, by simp only [List.length_append, List.length_cons, List.length_nil]; omega⟩, ⟨by simp only; split <;> omega, by simp only; split <;> omega⟩, fun y hy => ?_, fun y hy => ?_⟩ (by simp only; omega)
      · rcases List.mem_append.1 hy with h | h
        · exact h8 y h
        · rw [List.mem_singleton.1 h]; omega
      · simp only
        rcases List.mem_append.1 hy with h | h
        · have := h9 y h; split <;> split <;> omega
        · rw [List.mem_singleton.1 h]; split <;> split <;> omega
    · simp only [hk, decide_false, Bool.cond_false]
      refine bif_ff ?_ (tail _)
      have hx := mixFlows_in h4 h6 h7 ⟨by omega, h8⟩ h9 (by omega) (by omega)
      have g1 : ¬ (m_impl_MixFlows fs ss).1 < lo := by omega
      have g2 : ¬ hi < (m_impl_MixFlows fs ss).1 := by omega
      simp only [hx.1, g1, g2, decide_false, bne_self_eq_false, Bool.or_self]

end Go.Proofs.Ytfiedbefaoeoaaa
