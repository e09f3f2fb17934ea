/-
  THE WALKS: each Go function computes its model. Conditions: as each theorem states them (hp1, hp2 ..).
-/
import Derived.Test.YtchjibndocnnhaaExactMostPermitsWalks1
set_option linter.unusedVariables false
set_option linter.unusedSimpArgs false
set_option linter.unusedSectionVars false
set_option linter.unnecessarySimpa false
namespace Go.Proofs.Ytchjibndocnnhaa
open Go Go.RowKit Go.Proofs Go.Proofs.Ytchjibndocnnhaa.E
/-! ### spec_l26Search_run -/
set_option maxRecDepth 100000 in
set_option maxHeartbeats 4000000 in
theorem c_spec_l26Search_run_n : ∀ (fuel : Nat) (x_ : gl26Search) (at_ : Int) (hp1 : PmIn x_.m_.Airways.length x_.list) (hp2 : x_.list.length ≤ 16) (hp3 : 0 ≤ at_ ∧ at_ ≤ x_.list.length) (hp4 : (x_.set.length : Int) ≤ at_) (hp5 : ∀ y ∈ x_.set, 0 ≤ y ∧ y < x_.list.length) (hmu : ((x_.list.length : Int) - at_).toNat < fuel), Con Try.prog 63 [.op 0 0 0 0, .int .i64 at_] [(0, some (.box 104 [.rp [.int .i64 x_.m_.Junctions, .sl 7 (x_.m_.Airways.map gAirway.v)], .sl 5 (x_.list.map gPermit.v), .os 12 x_.set.length, .os 13 x_.best.length, .int .i64 x_.most, .int .i64 x_.nodes, .int .i64 x_.budget, .bool x_.full])), (12, some (.row 2 1 (x_.set.map (V.int .i64)))), (13, some (.row 2 1 (x_.best.map (V.int .i64))))] (.tup []) ([(100, some (.row 2 1 ((m_spec_l26Search_run_n fuel x_ at_).set.map (V.int .i64)))), (101, some (.row 2 1 ((m_spec_l26Search_run_n fuel x_ at_).best.map (V.int .i64)))), (0, some (.box 104 [.rp [.int .i64 x_.m_.Junctions, .sl 7 (x_.m_.Airways.map gAirway.v)], .sl 5 (x_.list.map gPermit.v), .os 100 (m_spec_l26Search_run_n fuel x_ at_).set.length, .os 101 (m_spec_l26Search_run_n fuel x_ at_).best.length, .int .i64 (m_spec_l26Search_run_n fuel x_ at_).most, .int .i64 (m_spec_l26Search_run_n fuel x_ at_).nodes, .int .i64 x_.budget, .bool (m_spec_l26Search_run_n fuel x_ at_).full]))]) := by
  intro fuel
  induction fuel with
  | zero => intro x_ at_ hp1 hp2 hp3 hp4 hp5 hmu; exact absurd hmu (Nat.not_lt_zero _)
  | succ fuel ih =>
  intro x_ at_ hp1 hp2 hp3 hp4 hp5 hmu
  simp only [m_spec_l26Search_run_n]
  have hself := post_spec_l26Search_run fuel
  generalize m_spec_l26Search_run_n fuel = self_ at ih hself ⊢
  refine con_intro (out := fun r : gl26Search => ((.tup [] : V), ([(100, some (.row 2 1 (r.set.map (V.int .i64)))), (101, some (.row 2 1 (r.best.map (V.int .i64)))), (0, some (.box 104 [.rp [.int .i64 x_.m_.Junctions, .sl 7 (x_.m_.Airways.map gAirway.v)], .sl 5 (x_.list.map gPermit.v), .os 100 r.set.length, .os 101 r.best.length, .int .i64 r.most, .int .i64 r.nodes, .int .i64 x_.budget, .bool r.full]))] : List (Nat × Option O)))) (r := (m_spec_l26Search_run_body self_ x_ at_)) Try.func63 rfl Try.ntmps63 rfl ?_
  have hW := wr64 (n := at_ + 1) (by omega)
  refine run_sub (s' := ⟨[(0, some (true, .op 0 0 0 0)), (1, some (true, .int .i64 at_))], [(0, some (.box 104 [.rp [.int .i64 x_.m_.Junctions, .sl 7 (x_.m_.Airways.map gAirway.v)], .sl 5 (x_.list.map gPermit.v), .os 200 x_.set.length, .os 201 x_.best.length, .int .i64 x_.most, .int .i64 x_.nodes, .int .i64 x_.budget, .bool x_.full])), (200, some (.row 2 1 (x_.set.map (V.int .i64)))), (201, some (.row 2 1 (x_.best.map (V.int .i64))))]⟩) (sub_of [(200, 12), (201, 13)] ⟨rfl, rfl, trivial⟩ ⟨rfl, rfl, rfl, trivial⟩ rfl) ?_
  refine run_factH (l := 200) rfl fun hl => ?_
  have l1 := hl; clear hl; simp only [List.length_map] at l1
  refine run_factH (l := 201) rfl fun hl => ?_
  have l2 := hl; clear hl; simp only [List.length_map] at l2
  refine run_seq ?_
  refine run_seq ?_
  refine run_region (q_move .n (.t rfl) rfl <|
      q_move .n (.t rfl) rfl <|
      q_nilc_ow .n (.t rfl) rfl <|
      q_fld_ow .n (.t rfl) fo_104_1 rfl <|
      q_ld1_ow .n (.t rfl) rfl (.inr rfl) (fun _ => rfl) rfl ic_50 rfl <|
      q_len .n (.t rfl) rfl len_map ss_50 rfl <|
      q_int .n (.t rfl) (.t rfl) rfl rfl <|
      Lex.nil) ?_
  refine run_fact (t := 10) rfl fun hl => ?_
  have l3 := hl; clear hl; simp only [List.length_map] at l3
  refine run_cond (.t rfl) rfl (fun h4 => ?_) (fun h4 => ?_)
  · try simp only [Bool.and_eq_true, Bool.or_eq_true, Bool.not_eq_true', Bool.and_eq_false_iff, Bool.or_eq_false_iff, Bool.not_eq_false', decide_eq_true_eq, decide_eq_false_iff_not, beq_iff_eq, bne_iff_ne, beq_eq_false_iff_ne, bne_eq_false_iff_eq, Bool.true_and, ne_eq, Decidable.not_not, Int.not_lt, Int.not_le, Nat.not_lt, Nat.not_le, strB_nil, strB_nil', strB_nnil, strB_nnil'] at h4
    refine run_seq ?_
    refine run_seq ?_
    refine run_draw fmo (q_move .n (.t rfl) rfl <|
        q_nilc_ow .n (.t rfl) rfl <|
        q_fld_ow .n (.t rfl) fo_104_2 rfl <|
        q_ld1_ow .n (.t rfl) rfl (.inr rfl) (fun _ => rfl) rfl ic_25 rfl <|
        q_len .n (.t rfl) rfl rfl ss_25 rfl <|
        q_move .n (.t rfl) rfl <|
        q_nilc_ow .n (.t rfl) rfl <|
        q_fld_ow .n (.t rfl) fo_104_4 rfl <|
        q_ld1_ow .n (.t rfl) rfl (.inr rfl) (fun _ => rfl) rfl ic_3 rfl <|
        q_int .n (.t rfl) (.t rfl) rfl rfl <|
        Lex.nil) (by kernel_rfl) ?_
    refine run_cond (.t rfl) rfl (fun h5 => ?_) (fun h5 => ?_)
    · try simp only [Bool.and_eq_true, Bool.or_eq_true, Bool.not_eq_true', Bool.and_eq_false_iff, Bool.or_eq_false_iff, Bool.not_eq_false', decide_eq_true_eq, decide_eq_false_iff_not, beq_iff_eq, bne_iff_ne, beq_eq_false_iff_ne, bne_eq_false_iff_eq, Bool.true_and, ne_eq, Decidable.not_not, Int.not_lt, Int.not_le, Nat.not_lt, Nat.not_le, strB_nil, strB_nil', strB_nnil, strB_nnil'] at h5
      refine run_seq ?_
      refine run_region (q_move .n (.t rfl) rfl <|
          q_move .n (.t rfl) rfl <|
          q_nilc_ow .n (.t rfl) rfl <|
          q_fld_ow .n (.t rfl) fo_104_2 rfl <|
          q_ld1_ow .n (.t rfl) rfl (.inr rfl) (fun _ => rfl) rfl ic_25 rfl <|
          q_len .n (.t rfl) rfl rfl ss_25 rfl <|
          q_nilc_ow .n (.t rfl) rfl <|
          q_fld_ow .n (.t rfl) fo_104_4 rfl <|
          q_st_boxm [.rp [.int .i64 x_.m_.Junctions, .sl 7 (x_.m_.Airways.map gAirway.v)], .sl 5 (x_.list.map gPermit.v), .os 200 x_.set.length, .os 201 x_.best.length, .int .i64 (x_.set.length : Int), .int .i64 x_.nodes, .int .i64 x_.budget, .bool x_.full] .n rfl (.t rfl) (.t rfl) rfl ts_3 rfl rfl <|
          Lex.nil) ?_
      refine run_region (q_move .n (.t rfl) rfl <|
          q_move .n (.t rfl) rfl <|
          q_nilc_ow .n (.t rfl) rfl <|
          q_fld_ow .n (.t rfl) fo_104_2 rfl <|
          q_ld1_ow .n (.t rfl) rfl (.inr rfl) (fun _ => rfl) rfl ic_25 rfl <|
          q_callM (full := true) [] [(100, 202)] .n rfl .f en_44 (.cons (.t rfl) .nil) (.cons (.b (.a (.own rfl rfl rfl (take_all (by simp only [len_map, put_len] <;> rfl)) (by simp only [len_map, put_len] <;> rfl)))) .nil) (c_spec_l00Own x_.set (by omega)) trivial rfl rfl (fun _ => rfl) (fun _ => (hr_row (fun _ => rfl) hr_nil)) rfl <|
          q_nilc_ow .n (.t rfl) rfl <|
          q_fld_ow .n (.t rfl) fo_104_3 rfl <|
          q_st_boxm [.rp [.int .i64 x_.m_.Junctions, .sl 7 (x_.m_.Airways.map gAirway.v)], .sl 5 (x_.list.map gPermit.v), .os 200 x_.set.length, .os 202 (m_spec_l00Own x_.set).length, .int .i64 (x_.set.length : Int), .int .i64 x_.nodes, .int .i64 x_.budget, .bool x_.full] .n rfl (.t rfl) (.t rfl) rfl ts_25 rfl rfl <|
          Lex.nil) ?_
      exact run_ret [(100, 200), (101, 202)] .nil rfl ⟨rfl, rfl, rfl, trivial⟩ rfl
    · try simp only [Bool.and_eq_true, Bool.or_eq_true, Bool.not_eq_true', Bool.and_eq_false_iff, Bool.or_eq_false_iff, Bool.not_eq_false', decide_eq_true_eq, decide_eq_false_iff_not, beq_iff_eq, bne_iff_ne, beq_eq_false_iff_ne, bne_eq_false_iff_eq, Bool.true_and, ne_eq, Decidable.not_not, Int.not_lt, Int.not_le, Nat.not_lt, Nat.not_le, strB_nil, strB_nil', strB_nnil, strB_nnil'] at h5
      refine run_skip ?_
      exact run_ret [(100, 200), (101, 201)] .nil rfl ⟨rfl, rfl, rfl, trivial⟩ rfl
  · try simp only [Bool.and_eq_true, Bool.or_eq_true, Bool.not_eq_true', Bool.and_eq_false_iff, Bool.or_eq_false_iff, Bool.not_eq_false', decide_eq_true_eq, decide_eq_false_iff_not, beq_iff_eq, bne_iff_ne, beq_eq_false_iff_ne, bne_eq_false_iff_eq, Bool.true_and, ne_eq, Decidable.not_not, Int.not_lt, Int.not_le, Nat.not_lt, Nat.not_le, strB_nil, strB_nil', strB_nnil, strB_nnil'] at h4
    refine run_skip ?_
    refine run_seq ?_
    refine run_region (q_assign .n (.c rfl) rfl <|
        Lex.nil) ?_
    refine run_seq ?_
    refine run_seq ?_
    refine run_region (q_assign .n (.c rfl) rfl <|
        Lex.nil) ?_
    refine run_block ?_
    refine run_LOOP (m_spec_l26Search_run_b1 self_ x_ at_) _ _ _ rfl (fun (x1 : Bool × Int) => 0 ≤ x1.2 ∧ x1.2 ≤ (x_.set.length : Int)) (fun x1 => 0 ≤ x1.2 ∧ x1.2 ≤ (x_.set.length : Int) ∧ (x_.set.length : Int) ≤ x1.2) (fun x1 => ((x_.set.length : Int) - x1.2 : Int).toNat) (fun x1 => ⟨[(0, some (true, .op 0 0 0 0)), (1, some (true, .int .i64 at_)), (4, some (true, .bool x1.1)), (5, some (true, .int .i64 x1.2))], [(0, some (.box 104 [.rp [.int .i64 x_.m_.Junctions, .sl 7 (x_.m_.Airways.map gAirway.v)], .sl 5 (x_.list.map gPermit.v), .os 200 x_.set.length, .os 201 x_.best.length, .int .i64 x_.most, .int .i64 x_.nodes, .int .i64 x_.budget, .bool x_.full])), (200, some (.row 2 1 (x_.set.map (V.int .i64)))), (201, some (.row 2 1 (x_.best.map (V.int .i64))))]⟩) (fun x1 => ⟨[(0, some (true, .op 0 0 0 0)), (1, some (true, .int .i64 at_)), (4, some (true, .bool x1.1))], [(0, some (.box 104 [.rp [.int .i64 x_.m_.Junctions, .sl 7 (x_.m_.Airways.map gAirway.v)], .sl 5 (x_.list.map gPermit.v), .os 200 x_.set.length, .os 201 x_.best.length, .int .i64 x_.most, .int .i64 x_.nodes, .int .i64 x_.budget, .bool x_.full])), (200, some (.row 2 1 (x_.set.map (V.int .i64)))), (201, some (.row 2 1 (x_.best.map (V.int .i64))))]⟩) ⟨by omega, by omega⟩ (by omega) (sub_of [] ⟨rfl, rfl, rfl, rfl, trivial⟩ ⟨rfl, rfl, rfl, trivial⟩ rfl) ?_ ?_
    · intro x1 i9
      obtain ⟨e31, e32, e33⟩ := i9
      try dsimp only at *
      refine run_seq ?_
      refine run_seq ?_
      refine run_draw fmo (q_move .n (.t rfl) rfl <|
          q_move .n (.t rfl) rfl <|
          q_move (.t rfl rfl) (.t rfl) rfl <|
          q_move (.t rfl rfl) (.t rfl) rfl <|
          q_nilc_ow (.t rfl rfl) (.u rfl id) rfl <|
          q_fld_ow (.t rfl rfl) (.u rfl id) fo_104_2 rfl <|
          q_ld1_ow (.t rfl rfl) (.u rfl id) rfl (.inr rfl) (fun _ => rfl) rfl ic_25 rfl <|
          q_len (.t rfl rfl) (.u rfl id) rfl rfl ss_25 rfl <|
          q_move (.t rfl rfl) (.t rfl) rfl <|
          q_nilc_ow (.t rfl rfl) (.u rfl id) rfl <|
          q_fld_ow (.t rfl rfl) (.u rfl id) fo_104_1 rfl <|
          q_ld1_ow (.t rfl rfl) (.u rfl id) rfl (.inr rfl) (fun _ => rfl) rfl ic_50 rfl <|
          q_len (.t rfl rfl) (.u rfl id) rfl len_map ss_50 rfl <|
          q_int (.t rfl rfl) (.u rfl id) (.u rfl id) rfl rfl <|
          q_move (.t rfl rfl) (.t rfl) rfl <|
          q_int (.t rfl rfl) (.u rfl id) (.u rfl id) rfl rfl <|
          q_callGMs (full := false) [(0, 0), (12, 200), (13, 201)] (v := .bool (m_spec_l26Search_node x_ (IntKind.wrap .i64 ((IntKind.wrap .i64 ((x_.set.length : Int) + (x_.list.length : Int))) - at_))).1) [(200, some (.row 2 1 (x_.set.map (V.int .i64)))), (201, some (.row 2 1 (x_.best.map (V.int .i64)))), (0, some (.box 104 [.rp [.int .i64 x_.m_.Junctions, .sl 7 (x_.m_.Airways.map gAirway.v)], .sl 5 (x_.list.map gPermit.v), .os 200 x_.set.length, .os 201 x_.best.length, .int .i64 x_.most, .int .i64 (bif x1.1 then (gl26Search.mk x_.m_ x_.list x_.set x_.best x_.most (m_spec_l26Search_node x_ (IntKind.wrap .i64 ((IntKind.wrap .i64 ((x_.set.length : Int) + (x_.list.length : Int))) - at_))).2.nodes x_.budget (m_spec_l26Search_node x_ (IntKind.wrap .i64 ((IntKind.wrap .i64 ((x_.set.length : Int) + (x_.list.length : Int))) - at_))).2.full) else x_).nodes, .int .i64 x_.budget, .bool (bif x1.1 then (gl26Search.mk x_.m_ x_.list x_.set x_.best x_.most (m_spec_l26Search_node x_ (IntKind.wrap .i64 ((IntKind.wrap .i64 ((x_.set.length : Int) + (x_.list.length : Int))) - at_))).2.nodes x_.budget (m_spec_l26Search_node x_ (IntKind.wrap .i64 ((IntKind.wrap .i64 ((x_.set.length : Int) + (x_.list.length : Int))) - at_))).2.full) else x_).full]))] (.t rfl rfl) (fun hg => .f) en_96 (fun hg => (.cons (.u rfl (fun _ => id hg)) (.cons (.u rfl (fun _ => id hg)) .nil))) (.cons (.b (.mutp rfl)) (.cons (.b (.a (.same rfl))) .nil)) (fun hg => c_spec_l26Search_node x_ (IntKind.wrap .i64 ((IntKind.wrap .i64 ((x_.set.length : Int) + (x_.list.length : Int))) - at_))) ⟨rfl, rfl, rfl, trivial⟩ rfl (fun h => Bool.noConfusion h) (fun h => Bool.noConfusion h) rfl (fun hg => by simp only [Bool.true_and] at hg; rw [hg]; exact ⟨rfl, rfl⟩) rfl rfl (fun hg => by simp only [Bool.true_and] at hg; rw [hg]; exact ⟨rfl, rfl, rfl, trivial⟩) <|
          q_and .n (.t rfl) (.u rfl id) rfl <|
          Lex.nil) (by kernel_rfl) ?_
      refine run_cut _ _ rfl (fun v10 : Bool × Int × Bool => True) (fun v10 => ⟨[(0, some (true, .op 0 0 0 0)), (1, some (true, .int .i64 at_)), (92, some (true, .bool v10.1))], [(0, some (.box 104 [.rp [.int .i64 x_.m_.Junctions, .sl 7 (x_.m_.Airways.map gAirway.v)], .sl 5 (x_.list.map gPermit.v), .os 200 x_.set.length, .os 201 x_.best.length, .int .i64 x_.most, .int .i64 v10.2.1, .int .i64 x_.budget, .bool v10.2.2])), (200, some (.row 2 1 (x_.set.map (V.int .i64)))), (201, some (.row 2 1 (x_.best.map (V.int .i64))))]⟩) (fun v10 _ => ?_) (fun j11 hj12 => ?_)
      · refine run_join _ _ rfl (fun v13 : (List Int) × (List Int) × Int × Int × Bool => v13.1 = x_.set) (fun v13 => ⟨[(0, some (true, .op 0 0 0 0)), (1, some (true, .int .i64 at_))], [(0, some (.box 104 [.rp [.int .i64 x_.m_.Junctions, .sl 7 (x_.m_.Airways.map gAirway.v)], .sl 5 (x_.list.map gPermit.v), .os 205 v13.1.length, .os 206 v13.2.1.length, .int .i64 v13.2.2.1, .int .i64 v13.2.2.2.1, .int .i64 x_.budget, .bool v13.2.2.2.2])), (205, some (.row 2 1 (v13.1.map (V.int .i64)))), (206, some (.row 2 1 (v13.2.1.map (V.int .i64))))]⟩) (fun v13 hv29 => ?_) (fun j14 hj15 => ?_)
        · have e30 := hv29
          refine run_seq ?_
          refine run_draw fmo (q_move .n (.t rfl) rfl <|
              q_move .n (.t rfl) rfl <|
              q_nilc_ow .n (.t rfl) rfl <|
              q_fld_ow .n (.t rfl) fo_104_2 rfl <|
              q_ld1_ow .n (.t rfl) rfl (.inr rfl) (fun _ => rfl) rfl ic_25 rfl <|
              q_len .n (.t rfl) rfl rfl ss_25 rfl <|
              q_move .n (.t rfl) rfl <|
              q_nilc_ow .n (.t rfl) rfl <|
              q_fld_ow .n (.t rfl) fo_104_1 rfl <|
              q_ld1_ow .n (.t rfl) rfl (.inr rfl) (fun _ => rfl) rfl ic_50 rfl <|
              q_len .n (.t rfl) rfl len_map ss_50 rfl <|
              q_int .n (.t rfl) (.t rfl) rfl rfl <|
              q_move .n (.t rfl) rfl <|
              q_int .n (.t rfl) (.t rfl) rfl rfl <|
              q_int .n (.t rfl) (.c rfl) rfl rfl <|
              q_callM (full := false) [(0, 0), (12, 205), (13, 206)] [] .n rfl .f en_96 (.cons (.t rfl) (.cons (.t rfl) .nil)) (.cons (.b (.mutp rfl)) (.cons (.b (.a (.same rfl))) .nil)) (c_spec_l26Search_node (gl26Search.mk x_.m_ x_.list v13.1 v13.2.1 v13.2.2.1 v13.2.2.2.1 x_.budget v13.2.2.2.2) (IntKind.wrap .i64 ((IntKind.wrap .i64 ((IntKind.wrap .i64 ((v13.1.length : Int) + (x_.list.length : Int))) - at_)) - 1))) ⟨rfl, rfl, rfl, trivial⟩ rfl rfl (fun h => Bool.noConfusion h) (fun h => Bool.noConfusion h) rfl <|
              Lex.nil) (by kernel_rfl) ?_
          refine run_cut _ _ rfl (fun v22 : Bool × Int × Bool => True) (fun v22 => ⟨[(0, some (true, .op 0 0 0 0)), (1, some (true, .int .i64 at_)), (136, some (true, .bool v22.1))], [(0, some (.box 104 [.rp [.int .i64 x_.m_.Junctions, .sl 7 (x_.m_.Airways.map gAirway.v)], .sl 5 (x_.list.map gPermit.v), .os 205 v13.1.length, .os 206 v13.2.1.length, .int .i64 v13.2.2.1, .int .i64 v22.2.1, .int .i64 x_.budget, .bool v22.2.2])), (205, some (.row 2 1 (v13.1.map (V.int .i64)))), (206, some (.row 2 1 (v13.2.1.map (V.int .i64))))]⟩) (fun v22 _ => ?_) (fun j23 hj24 => ?_)
          · refine run_cond (.t rfl) rfl (fun h25 => ?_) (fun h25 => ?_)
            · try simp only [Bool.and_eq_true, Bool.or_eq_true, Bool.not_eq_true', Bool.and_eq_false_iff, Bool.or_eq_false_iff, Bool.not_eq_false', decide_eq_true_eq, decide_eq_false_iff_not, beq_iff_eq, bne_iff_ne, beq_eq_false_iff_ne, bne_eq_false_iff_eq, Bool.true_and, ne_eq, Decidable.not_not, Int.not_lt, Int.not_le, Nat.not_lt, Nat.not_le, strB_nil, strB_nil', strB_nnil, strB_nnil'] at h25
              refine run_region (q_move .n (.t rfl) rfl <|
                  q_move .n (.t rfl) rfl <|
                  q_int .n (.t rfl) (.c rfl) rfl rfl <|
                  q_callM (full := false) [(0, 0), (12, 205), (13, 206)] [(100, 207), (101, 208)] .n rfl .f en_63 (.cons (.t rfl) (.cons (.t rfl) .nil)) (.cons (.b (.mutp rfl)) (.cons (.b (.a (.same rfl))) .nil)) (ih (gl26Search.mk x_.m_ x_.list v13.1 v13.2.1 v13.2.2.1 v22.2.1 x_.budget v22.2.2) (IntKind.wrap .i64 (at_ + 1)) (by omega) (by omega) (by (simp only [List.length_append, List.length_cons, List.length_nil, List.length_replicate, put_len] at * <;> omega)) (by ((have he := (show v13.1 = x_.set by assumption); dsimp only; rw [he]; omega))) (by ((have he := (show v13.1 = x_.set by assumption); dsimp only; rw [he]; omega))) (by (simp only [List.length_append, List.length_cons, List.length_nil, List.length_replicate, put_len] at * <;> omega))) ⟨rfl, rfl, rfl, trivial⟩ rfl rfl (fun h => Bool.noConfusion h) (fun h => Bool.noConfusion h) rfl <|
                  Lex.nil) ?_
              refine run_cut _ _ rfl (fun v26 : Int × Int × Bool × (List Int) × (List Int) => True) (fun v26 => ⟨[], [(0, some (.box 104 [.rp [.int .i64 x_.m_.Junctions, .sl 7 (x_.m_.Airways.map gAirway.v)], .sl 5 (x_.list.map gPermit.v), .os 207 v26.2.2.2.1.length, .os 208 v26.2.2.2.2.length, .int .i64 v26.1, .int .i64 v26.2.1, .int .i64 x_.budget, .bool v26.2.2.1])), (207, some (.row 2 1 (v26.2.2.2.1.map (V.int .i64)))), (208, some (.row 2 1 (v26.2.2.2.2.map (V.int .i64))))]⟩) (fun v26 _ => ?_) (fun j27 hj28 => ?_)
              · exact run_end [(100, 207), (101, 208)] .nil rfl ⟨rfl, rfl, rfl, trivial⟩ rfl
              · exact run_cont hj28 ((self_ (gl26Search.mk x_.m_ x_.list v13.1 v13.2.1 v13.2.2.1 v22.2.1 x_.budget v22.2.2) (IntKind.wrap .i64 (at_ + 1))).most, (self_ (gl26Search.mk x_.m_ x_.list v13.1 v13.2.1 v13.2.2.1 v22.2.1 x_.budget v22.2.2) (IntKind.wrap .i64 (at_ + 1))).nodes, (self_ (gl26Search.mk x_.m_ x_.list v13.1 v13.2.1 v13.2.2.1 v22.2.1 x_.budget v22.2.2) (IntKind.wrap .i64 (at_ + 1))).full, (self_ (gl26Search.mk x_.m_ x_.list v13.1 v13.2.1 v13.2.2.1 v22.2.1 x_.budget v22.2.2) (IntKind.wrap .i64 (at_ + 1))).set, (self_ (gl26Search.mk x_.m_ x_.list v13.1 v13.2.1 v13.2.2.1 v22.2.1 x_.budget v22.2.2) (IntKind.wrap .i64 (at_ + 1))).best) trivial (sub_of [] trivial ⟨rfl, rfl, rfl, trivial⟩ rfl)
            · try simp only [Bool.and_eq_true, Bool.or_eq_true, Bool.not_eq_true', Bool.and_eq_false_iff, Bool.or_eq_false_iff, Bool.not_eq_false', decide_eq_true_eq, decide_eq_false_iff_not, beq_iff_eq, bne_iff_ne, beq_eq_false_iff_ne, bne_eq_false_iff_eq, Bool.true_and, ne_eq, Decidable.not_not, Int.not_lt, Int.not_le, Nat.not_lt, Nat.not_le, strB_nil, strB_nil', strB_nnil, strB_nnil'] at h25
              refine run_skip ?_
              exact run_end [(100, 205), (101, 206)] .nil rfl ⟨rfl, rfl, rfl, trivial⟩ rfl
          · exact run_cont hj24 ((m_spec_l26Search_node (gl26Search.mk x_.m_ x_.list v13.1 v13.2.1 v13.2.2.1 v13.2.2.2.1 x_.budget v13.2.2.2.2) (IntKind.wrap .i64 ((IntKind.wrap .i64 ((IntKind.wrap .i64 ((v13.1.length : Int) + (x_.list.length : Int))) - at_)) - 1))).1, (m_spec_l26Search_node (gl26Search.mk x_.m_ x_.list v13.1 v13.2.1 v13.2.2.1 v13.2.2.2.1 x_.budget v13.2.2.2.2) (IntKind.wrap .i64 ((IntKind.wrap .i64 ((IntKind.wrap .i64 ((v13.1.length : Int) + (x_.list.length : Int))) - at_)) - 1))).2.nodes, (m_spec_l26Search_node (gl26Search.mk x_.m_ x_.list v13.1 v13.2.1 v13.2.2.1 v13.2.2.2.1 x_.budget v13.2.2.2.2) (IntKind.wrap .i64 ((IntKind.wrap .i64 ((IntKind.wrap .i64 ((v13.1.length : Int) + (x_.list.length : Int))) - at_)) - 1))).2.full) trivial (sub_of [] ⟨rfl, rfl, rfl, trivial⟩ ⟨rfl, rfl, rfl, trivial⟩ rfl)
        · refine run_cond (.t rfl) rfl (fun h16 => ?_) (fun h16 => ?_)
          · try simp only [Bool.and_eq_true, Bool.or_eq_true, Bool.not_eq_true', Bool.and_eq_false_iff, Bool.or_eq_false_iff, Bool.not_eq_false', decide_eq_true_eq, decide_eq_false_iff_not, beq_iff_eq, bne_iff_ne, beq_eq_false_iff_ne, bne_eq_false_iff_eq, Bool.true_and, ne_eq, Decidable.not_not, Int.not_lt, Int.not_le, Nat.not_lt, Nat.not_le, strB_nil, strB_nil', strB_nnil, strB_nnil'] at h16
            refine run_seq ?_
            refine run_region (q_move .n (.t rfl) rfl <|
                q_move .n (.t rfl) rfl <|
                q_nilc_ow .n (.t rfl) rfl <|
                q_fld_ow .n (.t rfl) fo_104_2 rfl <|
                q_ld1_ow .n (.t rfl) rfl (.inr rfl) (fun _ => rfl) rfl ic_25 rfl <|
                q_move .n (.t rfl) rfl <|
                q_bslicem ([at_] : List Int) (f := V.int .i64) (l := 203) .n rfl rfl (.cons (.t rfl) .nil) rfl si_25 zv_2 rfl rfl rfl <|
                q_appm (xs := x_.set) (ys := ([at_] : List Int)) (f := V.int .i64) (l := 204) .n rfl (.ow (.t rfl) rfl (take_all (by simp only [len_map, put_len] <;> rfl)) (by simp only [len_map, put_len] <;> rfl)) (.ow (.t rfl) rfl (take_all (by simp only [len_map, put_len] <;> rfl)) (by simp only [len_map, put_len] <;> rfl)) si_25 zv_2 rfl (by (simp only [List.length_append, List.length_cons, List.length_nil, List.length_replicate, put_len] at * <;> omega)) rfl rfl <|
                q_nilc_ow .n (.t rfl) rfl <|
                q_fld_ow .n (.t rfl) fo_104_2 rfl <|
                q_st_boxm [.rp [.int .i64 x_.m_.Junctions, .sl 7 (x_.m_.Airways.map gAirway.v)], .sl 5 (x_.list.map gPermit.v), .os 204 (x_.set ++ ([at_] : List Int)).length, .os 201 x_.best.length, .int .i64 x_.most, .int .i64 v10.2.1, .int .i64 x_.budget, .bool v10.2.2] .n rfl (.t rfl) (.t rfl) rfl ts_25 rfl rfl <|
                Lex.nil) ?_
            refine run_seq ?_
            refine run_region (q_move .n (.t rfl) rfl <|
                q_move .n (.t rfl) rfl <|
                q_int .n (.t rfl) (.c rfl) rfl rfl <|
                q_callM (full := false) [(0, 0), (12, 204), (13, 201)] [(100, 205), (101, 206)] .n rfl .f en_63 (.cons (.t rfl) (.cons (.t rfl) .nil)) (.cons (.b (.mutp rfl)) (.cons (.b (.a (.same rfl))) .nil)) (ih (gl26Search.mk x_.m_ x_.list (x_.set ++ ([at_] : List Int)) x_.best x_.most v10.2.1 x_.budget v10.2.2) (IntKind.wrap .i64 (at_ + 1)) (by omega) (by omega) (by (simp only [List.length_append, List.length_cons, List.length_nil, List.length_replicate, put_len] at * <;> omega)) (by (simp only [List.length_append, List.length_cons, List.length_nil, List.length_replicate, put_len] at * <;> omega)) (by ((intro y hy; dsimp only at hy ⊢; simp only [List.mem_append, List.mem_singleton] at hy; rcases hy with hy | hy; exact hp5 y hy; omega))) (by (simp only [List.length_append, List.length_cons, List.length_nil, List.length_replicate, put_len] at * <;> omega))) ⟨rfl, rfl, rfl, trivial⟩ rfl rfl (fun h => Bool.noConfusion h) (fun h => Bool.noConfusion h) rfl <|
                Lex.nil) ?_
            refine run_cut _ _ rfl (fun v17 : Int × Int × Bool × (List Int) × (List Int) => v17.2.2.2.1 = x_.set ++ ([at_] : List Int)) (fun v17 => ⟨[(0, some (true, .op 0 0 0 0)), (1, some (true, .int .i64 at_))], [(0, some (.box 104 [.rp [.int .i64 x_.m_.Junctions, .sl 7 (x_.m_.Airways.map gAirway.v)], .sl 5 (x_.list.map gPermit.v), .os 205 v17.2.2.2.1.length, .os 206 v17.2.2.2.2.length, .int .i64 v17.1, .int .i64 v17.2.1, .int .i64 x_.budget, .bool v17.2.2.1])), (205, some (.row 2 1 (v17.2.2.2.1.map (V.int .i64)))), (206, some (.row 2 1 (v17.2.2.2.2.map (V.int .i64))))]⟩) (fun v17 hv20 => ?_) (fun j18 hj19 => ?_)
            · have e21 := hv20
              refine run_draw fmo (q_move .n (.t rfl) rfl <|
                  q_move .n (.t rfl) rfl <|
                  q_nilc_ow .n (.t rfl) rfl <|
                  q_fld_ow .n (.t rfl) fo_104_2 rfl <|
                  q_ld1_ow .n (.t rfl) rfl (.inr rfl) (fun _ => rfl) rfl ic_25 rfl <|
                  q_move .n (.t rfl) rfl <|
                  q_nilc_ow .n (.t rfl) rfl <|
                  q_fld_ow .n (.t rfl) fo_104_2 rfl <|
                  q_ld1_ow .n (.t rfl) rfl (.inr rfl) (fun _ => rfl) rfl ic_25 rfl <|
                  q_len .n (.t rfl) rfl rfl ss_25 rfl <|
                  q_int .n (.t rfl) (.c rfl) rfl rfl <|
                  q_cut_owm (xs := v17.2.2.2.1) (b := (IntKind.wrap .i64 ((v17.2.2.2.1.length : Int) - 1))) .n (.t rfl) (.s (.t rfl)) sl_25 (fun _ => by ((have hc := (show v17.2.2.2.1 = x_.set ++ ([at_] : List Int) by assumption); rw [hc]; simp only [List.length_append, List.length_cons, List.length_nil]; rw [wr64 (by omega)]; omega))) rfl <|
                  q_nilc_ow .n (.t rfl) rfl <|
                  q_fld_ow .n (.t rfl) fo_104_2 rfl <|
                  q_st_boxm [.rp [.int .i64 x_.m_.Junctions, .sl 7 (x_.m_.Airways.map gAirway.v)], .sl 5 (x_.list.map gPermit.v), .os 205 (pre' v17.2.2.2.1 (IntKind.wrap .i64 ((v17.2.2.2.1.length : Int) - 1))).length, .os 206 v17.2.2.2.2.length, .int .i64 v17.1, .int .i64 v17.2.1, .int .i64 x_.budget, .bool v17.2.2.1] .n rfl (.t rfl) (.t rfl) rfl ts_25 rfl rfl <|
                  Lex.nil) (by kernel_rfl) ?_
              refine run_shrink (f := V.int .i64) (xs := v17.2.2.2.1) (l := 205) (IntKind.wrap .i64 ((v17.2.2.2.1.length : Int) - 1)) rfl ?_
              exact run_cont hj15 (pre' v17.2.2.2.1 (IntKind.wrap .i64 ((v17.2.2.2.1.length : Int) - 1)), v17.2.2.2.2, v17.1, v17.2.1, v17.2.2.1) (by ((have hc := (show v17.2.2.2.1 = x_.set ++ ([at_] : List Int) by assumption); dsimp only; rw [hc]; exact app_cut (by omega)))) (sub_of [] ⟨rfl, rfl, trivial⟩ ⟨rfl, rfl, rfl, trivial⟩ rfl)
            · exact run_cont hj19 ((self_ (gl26Search.mk x_.m_ x_.list (x_.set ++ ([at_] : List Int)) x_.best x_.most v10.2.1 x_.budget v10.2.2) (IntKind.wrap .i64 (at_ + 1))).most, (self_ (gl26Search.mk x_.m_ x_.list (x_.set ++ ([at_] : List Int)) x_.best x_.most v10.2.1 x_.budget v10.2.2) (IntKind.wrap .i64 (at_ + 1))).nodes, (self_ (gl26Search.mk x_.m_ x_.list (x_.set ++ ([at_] : List Int)) x_.best x_.most v10.2.1 x_.budget v10.2.2) (IntKind.wrap .i64 (at_ + 1))).full, (self_ (gl26Search.mk x_.m_ x_.list (x_.set ++ ([at_] : List Int)) x_.best x_.most v10.2.1 x_.budget v10.2.2) (IntKind.wrap .i64 (at_ + 1))).set, (self_ (gl26Search.mk x_.m_ x_.list (x_.set ++ ([at_] : List Int)) x_.best x_.most v10.2.1 x_.budget v10.2.2) (IntKind.wrap .i64 (at_ + 1))).best) (by ((rw [hW]; exact hself _ _ (by dsimp only; simp only [List.length_append, List.length_cons, List.length_nil]; omega) (by omega) (by dsimp only; omega) (by dsimp only; omega) (by dsimp only; omega)))) (sub_of [] ⟨rfl, rfl, trivial⟩ ⟨rfl, rfl, rfl, trivial⟩ rfl)
          · try simp only [Bool.and_eq_true, Bool.or_eq_true, Bool.not_eq_true', Bool.and_eq_false_iff, Bool.or_eq_false_iff, Bool.not_eq_false', decide_eq_true_eq, decide_eq_false_iff_not, beq_iff_eq, bne_iff_ne, beq_eq_false_iff_ne, bne_eq_false_iff_eq, Bool.true_and, ne_eq, Decidable.not_not, Int.not_lt, Int.not_le, Nat.not_lt, Nat.not_le, strB_nil, strB_nil', strB_nnil, strB_nnil'] at h16
            refine run_skip ?_
            exact run_cont hj15 (x_.set, x_.best, x_.most, v10.2.1, v10.2.2) (by (simp only [List.length_append, List.length_cons, List.length_nil, List.length_replicate, put_len] at * <;> omega)) (sub_of [(205, 200), (206, 201)] ⟨rfl, rfl, trivial⟩ ⟨rfl, rfl, rfl, trivial⟩ rfl)
      · exact run_cont hj12 (x1.1 && (m_spec_l26Search_node x_ (IntKind.wrap .i64 ((IntKind.wrap .i64 ((x_.set.length : Int) + (x_.list.length : Int))) - at_))).1, (bif x1.1 then (gl26Search.mk x_.m_ x_.list x_.set x_.best x_.most (m_spec_l26Search_node x_ (IntKind.wrap .i64 ((IntKind.wrap .i64 ((x_.set.length : Int) + (x_.list.length : Int))) - at_))).2.nodes x_.budget (m_spec_l26Search_node x_ (IntKind.wrap .i64 ((IntKind.wrap .i64 ((x_.set.length : Int) + (x_.list.length : Int))) - at_))).2.full) else x_).nodes, (bif x1.1 then (gl26Search.mk x_.m_ x_.list x_.set x_.best x_.most (m_spec_l26Search_node x_ (IntKind.wrap .i64 ((IntKind.wrap .i64 ((x_.set.length : Int) + (x_.list.length : Int))) - at_))).2.nodes x_.budget (m_spec_l26Search_node x_ (IntKind.wrap .i64 ((IntKind.wrap .i64 ((x_.set.length : Int) + (x_.list.length : Int))) - at_))).2.full) else x_).full) trivial (sub_of [] ⟨rfl, rfl, rfl, trivial⟩ ⟨rfl, rfl, rfl, trivial⟩ rfl)
    · intro rec1 k1 hk6 x1 i7
      obtain ⟨e34, e35⟩ := i7
      try dsimp only at *
      refine run_seq ?_
      refine run_seq ?_
      refine run_region (q_move .n (.t rfl) rfl <|
          q_move .n (.t rfl) rfl <|
          q_nilc_ow .n (.t rfl) rfl <|
          q_fld_ow .n (.t rfl) fo_104_2 rfl <|
          q_ld1_ow .n (.t rfl) rfl (.inr rfl) (fun _ => rfl) rfl ic_25 rfl <|
          q_len .n (.t rfl) rfl rfl ss_25 rfl <|
          q_int .n (.t rfl) (.t rfl) rfl rfl <|
          Lex.nil) ?_
      refine run_cond (.t rfl) rfl (fun h8 => ?_) (fun h8 => ?_)
      · try simp only [Bool.and_eq_true, Bool.or_eq_true, Bool.not_eq_true', Bool.and_eq_false_iff, Bool.or_eq_false_iff, Bool.not_eq_false', decide_eq_true_eq, decide_eq_false_iff_not, beq_iff_eq, bne_iff_ne, beq_eq_false_iff_ne, bne_eq_false_iff_eq, Bool.true_and, ne_eq, Decidable.not_not, Int.not_lt, Int.not_le, Nat.not_lt, Nat.not_le, strB_nil, strB_nil', strB_nnil, strB_nnil'] at h8
        refine run_skip ?_
        refine run_seq ?_
        refine run_block ?_
        refine run_draw fmo (q_move .n (.t rfl) rfl <|
            q_move .n (.t rfl) rfl <|
            q_move (.t rfl rfl) (.t rfl) rfl <|
            q_nilc_ow (.t rfl rfl) (.u rfl id) rfl <|
            q_fld_ow (.t rfl rfl) (.u rfl id) fo_104_0 rfl <|
            q_ld1_ow (.t rfl rfl) (.u rfl id) rfl (.inr rfl) (fun _ => rfl) rfl ic_73 rfl <|
            q_move (.t rfl rfl) (.t rfl) rfl <|
            q_nilc_ow (.t rfl rfl) (.u rfl id) rfl <|
            q_fld_ow (.t rfl rfl) (.u rfl id) fo_104_1 rfl <|
            q_ld1_ow (.t rfl rfl) (.u rfl id) rfl (.inr rfl) (fun _ => rfl) rfl ic_50 rfl <|
            q_move (.t rfl rfl) (.t rfl) rfl <|
            q_nilc_ow (.t rfl rfl) (.u rfl id) rfl <|
            q_fld_ow (.t rfl rfl) (.u rfl id) fo_104_2 rfl <|
            q_ld1_ow (.t rfl rfl) (.u rfl id) rfl (.inr rfl) (fun _ => rfl) rfl ic_25 rfl <|
            q_move (.t rfl rfl) (.t rfl) rfl <|
            q_idx_ow (.t rfl rfl) (.u rfl id) (.u rfl id) sl_25 (fun hg => by simp only [Bool.and_eq_true, Bool.or_eq_true, Bool.not_eq_true', Bool.and_eq_false_iff, Bool.or_eq_false_iff, Bool.not_eq_false', decide_eq_true_eq, decide_eq_false_iff_not, beq_iff_eq, bne_iff_ne, beq_eq_false_iff_ne, bne_eq_false_iff_eq, Bool.true_and, ne_eq, Decidable.not_not, Int.not_lt, Int.not_le, Nat.not_lt, Nat.not_le, strB_nil, strB_nil', strB_nnil, strB_nnil'] at hg; omega) rfl <|
            q_ld1_row (.t rfl rfl) (.u rfl id) rfl (fun hg => by simp only [Bool.and_eq_true, Bool.or_eq_true, Bool.not_eq_true', Bool.and_eq_false_iff, Bool.or_eq_false_iff, Bool.not_eq_false', decide_eq_true_eq, decide_eq_false_iff_not, beq_iff_eq, bne_iff_ne, beq_eq_false_iff_ne, bne_eq_false_iff_eq, Bool.true_and, ne_eq, Decidable.not_not, Int.not_lt, Int.not_le, Nat.not_lt, Nat.not_le, strB_nil, strB_nil', strB_nnil, strB_nnil'] at hg; omega) rfl rfl rfl ic_2 rfl <|
            q_idx_rm (.t rfl rfl) (.u rfl id) (.u rfl id) sl_50 (fun hg => by simp only [Bool.and_eq_true, Bool.or_eq_true, Bool.not_eq_true', Bool.and_eq_false_iff, Bool.or_eq_false_iff, Bool.not_eq_false', decide_eq_true_eq, decide_eq_false_iff_not, beq_iff_eq, bne_iff_ne, beq_eq_false_iff_ne, bne_eq_false_iff_eq, Bool.true_and, ne_eq, Decidable.not_not, Int.not_lt, Int.not_le, Nat.not_lt, Nat.not_le, strB_nil, strB_nil', strB_nnil, strB_nnil'] at hg; (exact at_all hp5 (by omega))) rfl <|
            q_move (.t rfl rfl) (.t rfl) rfl <|
            q_nilc_ow (.t rfl rfl) (.u rfl id) rfl <|
            q_fld_ow (.t rfl rfl) (.u rfl id) fo_104_1 rfl <|
            q_ld1_ow (.t rfl rfl) (.u rfl id) rfl (.inr rfl) (fun _ => rfl) rfl ic_50 rfl <|
            q_move (.t rfl rfl) (.t rfl) rfl <|
            q_idx_rm (.t rfl rfl) (.u rfl id) (.u rfl id) sl_50 (fun hg => by simp only [Bool.and_eq_true, Bool.or_eq_true, Bool.not_eq_true', Bool.and_eq_false_iff, Bool.or_eq_false_iff, Bool.not_eq_false', decide_eq_true_eq, decide_eq_false_iff_not, beq_iff_eq, bne_iff_ne, beq_eq_false_iff_ne, bne_eq_false_iff_eq, Bool.true_and, ne_eq, Decidable.not_not, Int.not_lt, Int.not_le, Nat.not_lt, Nat.not_le, strB_nil, strB_nil', strB_nnil, strB_nnil'] at hg; omega) rfl <|
            q_call0 (full := false) (.t rfl rfl) .f en_95 (.cons (.u rfl id) (.cons (.u rfl id) (.cons (.u rfl id) .nil))) (.cons (.b (.a (.same rfl))) (.cons (.b (.a (.same rfl))) (.cons (.b (.a (.same rfl))) .nil))) (fun hg => c_spec_l26Clash x_.m_ (at' x_.list (at' x_.set x1.2)) (at' x_.list at_) (by simp only [Bool.and_eq_true, Bool.or_eq_true, Bool.not_eq_true', Bool.and_eq_false_iff, Bool.or_eq_false_iff, Bool.not_eq_false', decide_eq_true_eq, decide_eq_false_iff_not, beq_iff_eq, bne_iff_ne, beq_eq_false_iff_ne, bne_eq_false_iff_eq, Bool.true_and, ne_eq, Decidable.not_not, Int.not_lt, Int.not_le, Nat.not_lt, Nat.not_le, strB_nil, strB_nil', strB_nnil, strB_nnil'] at hg; (exact at_rngP hp1 hp5 ⟨by omega, by omega⟩)) (by simp only [Bool.and_eq_true, Bool.or_eq_true, Bool.not_eq_true', Bool.and_eq_false_iff, Bool.or_eq_false_iff, Bool.not_eq_false', decide_eq_true_eq, decide_eq_false_iff_not, beq_iff_eq, bne_iff_ne, beq_eq_false_iff_ne, bne_eq_false_iff_eq, Bool.true_and, ne_eq, Decidable.not_not, Int.not_lt, Int.not_le, Nat.not_lt, Nat.not_le, strB_nil, strB_nil', strB_nnil, strB_nnil'] at hg; (exact at_rngK hp1 ⟨by omega, by omega⟩))) rfl (fun h => Bool.noConfusion h) rfl <|
            q_not (.t rfl rfl) (.u rfl id) rfl <|
            q_and .n (.t rfl) (.u rfl id) rfl <|
            q_assign .n (.t rfl) rfl <|
            Lex.nil) (by kernel_rfl) ?_
        refine run_endB ?_
        refine run_region (q_move .n (.t rfl) rfl <|
            q_add .n (.t rfl) (.c rfl) (fun _ => by omega) rfl <|
            q_assign .n (.t rfl) rfl <|
            Lex.nil) ?_
        exact run_again (x1.1 && (!(m_spec_l26Clash x_.m_ (at' x_.list (at' x_.set x1.2)) (at' x_.list at_))), x1.2 + 1) ⟨by omega, by omega⟩ (by omega) (sub_of [] ⟨rfl, rfl, rfl, rfl, trivial⟩ ⟨rfl, rfl, rfl, trivial⟩ rfl)
      · try simp only [Bool.and_eq_true, Bool.or_eq_true, Bool.not_eq_true', Bool.and_eq_false_iff, Bool.or_eq_false_iff, Bool.not_eq_false', decide_eq_true_eq, decide_eq_false_iff_not, beq_iff_eq, bne_iff_ne, beq_eq_false_iff_ne, bne_eq_false_iff_eq, Bool.true_and, ne_eq, Decidable.not_not, Int.not_lt, Int.not_le, Nat.not_lt, Nat.not_le, strB_nil, strB_nil', strB_nnil, strB_nnil'] at h8
        refine run_exit rfl ?_
        exact run_cont hk6 (x1.1, x1.2) ⟨by omega, by omega, by omega⟩ (sub_of [] ⟨rfl, rfl, rfl, trivial⟩ ⟨rfl, rfl, rfl, trivial⟩ rfl)
theorem c_spec_l26Search_run (x_ : gl26Search) (at_ : Int) (hp1 : PmIn x_.m_.Airways.length x_.list) (hp2 : x_.list.length ≤ 16) (hp3 : 0 ≤ at_ ∧ at_ ≤ x_.list.length) (hp4 : (x_.set.length : Int) ≤ at_) (hp5 : ∀ y ∈ x_.set, 0 ≤ y ∧ y < x_.list.length) : Con Try.prog 63 [.op 0 0 0 0, .int .i64 at_] [(0, some (.box 104 [.rp [.int .i64 x_.m_.Junctions, .sl 7 (x_.m_.Airways.map gAirway.v)], .sl 5 (x_.list.map gPermit.v), .os 12 x_.set.length, .os 13 x_.best.length, .int .i64 x_.most, .int .i64 x_.nodes, .int .i64 x_.budget, .bool x_.full])), (12, some (.row 2 1 (x_.set.map (V.int .i64)))), (13, some (.row 2 1 (x_.best.map (V.int .i64))))] (.tup []) ([(100, some (.row 2 1 ((m_spec_l26Search_run x_ at_).set.map (V.int .i64)))), (101, some (.row 2 1 ((m_spec_l26Search_run x_ at_).best.map (V.int .i64)))), (0, some (.box 104 [.rp [.int .i64 x_.m_.Junctions, .sl 7 (x_.m_.Airways.map gAirway.v)], .sl 5 (x_.list.map gPermit.v), .os 100 (m_spec_l26Search_run x_ at_).set.length, .os 101 (m_spec_l26Search_run x_ at_).best.length, .int .i64 (m_spec_l26Search_run x_ at_).most, .int .i64 (m_spec_l26Search_run x_ at_).nodes, .int .i64 x_.budget, .bool (m_spec_l26Search_run x_ at_).full]))]) := by
  exact c_spec_l26Search_run_n (((x_.list.length : Int) - at_).toNat + 1) x_ at_ hp1 hp2 hp3 hp4 hp5 (by omega)


/-! ### spec_MostPermits -/
theorem c_spec_MostPermits (m_ : gMine) (list : List gPermit) (budget : Int) : Con Try.prog 24 [.st [.int .i64 m_.Junctions, .sl 7 (m_.Airways.map gAirway.v)], .sl 5 (list.map gPermit.v), .int .i64 budget] [] (.tup [.os 100 (m_spec_MostPermits m_ list budget).1.length, .int .i64 (m_spec_MostPermits m_ list budget).2]) ([(100, some (.row 2 1 ((m_spec_MostPermits m_ list budget).1.map (V.int .i64))))]) := by
  refine ConG.con ?_ rfl (hr_row (fun _ => rfl) hr_nil)
  refine con_introG (out := fun r : (List Int) × Int => ((.tup [.os 100 r.1.length, .int .i64 r.2] : V), ([(100, some (.row 2 1 (r.1.map (V.int .i64))))] : List (Nat × Option O)))) (r := (m_spec_MostPermits m_ list budget)) Try.func24 rfl Try.ntmps24 rfl ?_
  refine run_factS (t := 0) 1 rfl rfl fun hl => ?_
  have l1 := hl; clear hl; simp only [List.length_map] at l1
  refine run_fact (t := 1) rfl fun hl => ?_
  have l2 := hl; clear hl; simp only [List.length_map] at l2
  refine run_seq ?_
  refine run_region (q_box (l := 200) .n rfl (.t rfl) rfl rfl rfl rfl <|
      q_assign .n (.c rfl) rfl <|
      q_assign .n (.c rfl) rfl <|
      Lex.nil) ?_
  refine run_seq ?_
  refine run_seq ?_
  refine run_region (q_move .n (.t rfl) rfl <|
      q_call0 (full := true) .n .f en_61 (.cons (.t rfl) (.cons (.t rfl) .nil)) (.cons (.b (.ptr rfl rfl (.inr rfl) rfl rfl (.cons (.same rfl) (.cons (.same rfl) .nil)))) (.cons (.b (.a (.same rfl))) .nil)) (fun hg => c_spec_l26Ok m_ list) rfl (fun _ => rfl) rfl <|
      q_not .n (.t rfl) rfl <|
      Lex.nil) ?_
  refine run_cond (.t rfl) rfl (fun h3 => ?_) (fun h3 => ?_)
  · try simp only [Bool.and_eq_true, Bool.or_eq_true, Bool.not_eq_true', Bool.and_eq_false_iff, Bool.or_eq_false_iff, Bool.not_eq_false', decide_eq_true_eq, decide_eq_false_iff_not, beq_iff_eq, bne_iff_ne, beq_eq_false_iff_ne, bne_eq_false_iff_eq, Bool.true_and, ne_eq, Decidable.not_not, Int.not_lt, Int.not_le, Nat.not_lt, Nat.not_le, strB_nil, strB_nil', strB_nnil, strB_nnil'] at h3
    try have hf0h3 := l26Ok_imp h3
    try have hf1h3 := l26Ok_imp h3.1
    try have hf2h3 := l26Ok_imp h3.2
    try have hf3h3 := l26Ok_imp h3.1.1
    try have hf4h3 := l26Ok_imp h3.1.2
    try have hf5h3 := l26Ok_imp h3.2.1
    try have hf6h3 := l26Ok_imp h3.2.2
    try have hf7h3 := l26Ok_len h3
    try have hf8h3 := l26Ok_len h3.1
    try have hf9h3 := l26Ok_len h3.2
    try have hf10h3 := l26Ok_len h3.1.1
    try have hf11h3 := l26Ok_len h3.1.2
    try have hf12h3 := l26Ok_len h3.2.1
    try have hf13h3 := l26Ok_len h3.2.2
    refine run_seq ?_
    refine run_region (q_assign .n (.c rfl) rfl <|
        q_assign .n (.c rfl) rfl <|
        Lex.nil) ?_
    refine run_sub (sub_adopt (t := 6) (l := 201) (el := 2) (sz := 1) rfl rfl) ?_
    exact run_ret [(100, 201)] (.cons (.t rfl rfl) (.cons (.t rfl rfl) .nil)) (by first | rfl | (simp only [put_len]; rfl)) ⟨rfl, trivial⟩ rfl
  · try simp only [Bool.and_eq_true, Bool.or_eq_true, Bool.not_eq_true', Bool.and_eq_false_iff, Bool.or_eq_false_iff, Bool.not_eq_false', decide_eq_true_eq, decide_eq_false_iff_not, beq_iff_eq, bne_iff_ne, beq_eq_false_iff_ne, bne_eq_false_iff_eq, Bool.true_and, ne_eq, Decidable.not_not, Int.not_lt, Int.not_le, Nat.not_lt, Nat.not_le, strB_nil, strB_nil', strB_nnil, strB_nnil'] at h3
    try have hf0h3 := l26Ok_imp h3
    try have hf1h3 := l26Ok_imp h3.1
    try have hf2h3 := l26Ok_imp h3.2
    try have hf3h3 := l26Ok_imp h3.1.1
    try have hf4h3 := l26Ok_imp h3.1.2
    try have hf5h3 := l26Ok_imp h3.2.1
    try have hf6h3 := l26Ok_imp h3.2.2
    try have hf7h3 := l26Ok_len h3
    try have hf8h3 := l26Ok_len h3.1
    try have hf9h3 := l26Ok_len h3.2
    try have hf10h3 := l26Ok_len h3.1.1
    try have hf11h3 := l26Ok_len h3.1.2
    try have hf12h3 := l26Ok_len h3.2.1
    try have hf13h3 := l26Ok_len h3.2.2
    refine run_skip ?_
    refine run_seq ?_
    refine run_seq ?_
    refine run_region (q_move .n (.t rfl) rfl <|
        q_call0 (full := false) .n .f en_62 (.cons (.t rfl) (.cons (.c rfl) (.cons (.c rfl) .nil))) (.cons (.b (.a (.same rfl))) (.cons (.b (.a (.same rfl))) (.cons (.b (.a (.same rfl))) .nil))) (fun hg => c_spec_l00In budget 1 20000) rfl (fun h => Bool.noConfusion h) rfl <|
        q_not .n (.t rfl) rfl <|
        Lex.nil) ?_
    refine run_cond (.t rfl) rfl (fun h4 => ?_) (fun h4 => ?_)
    · try simp only [Bool.and_eq_true, Bool.or_eq_true, Bool.not_eq_true', Bool.and_eq_false_iff, Bool.or_eq_false_iff, Bool.not_eq_false', decide_eq_true_eq, decide_eq_false_iff_not, beq_iff_eq, bne_iff_ne, beq_eq_false_iff_ne, bne_eq_false_iff_eq, Bool.true_and, ne_eq, Decidable.not_not, Int.not_lt, Int.not_le, Nat.not_lt, Nat.not_le, strB_nil, strB_nil', strB_nnil, strB_nnil'] at h4
      try have hf0h4 := l00In_imp h4
      try have hf1h4 := l00In_imp h4.1
      try have hf2h4 := l00In_imp h4.2
      try have hf3h4 := l00In_imp h4.1.1
      try have hf4h4 := l00In_imp h4.1.2
      try have hf5h4 := l00In_imp h4.2.1
      try have hf6h4 := l00In_imp h4.2.2
      refine run_seq ?_
      refine run_region (q_assign .n (.c rfl) rfl <|
          q_assign .n (.c rfl) rfl <|
          Lex.nil) ?_
      refine run_sub (sub_adopt (t := 6) (l := 202) (el := 2) (sz := 1) rfl rfl) ?_
      exact run_ret [(100, 202)] (.cons (.t rfl rfl) (.cons (.t rfl rfl) .nil)) (by first | rfl | (simp only [put_len]; rfl)) ⟨rfl, trivial⟩ rfl
    · try simp only [Bool.and_eq_true, Bool.or_eq_true, Bool.not_eq_true', Bool.and_eq_false_iff, Bool.or_eq_false_iff, Bool.not_eq_false', decide_eq_true_eq, decide_eq_false_iff_not, beq_iff_eq, bne_iff_ne, beq_eq_false_iff_ne, bne_eq_false_iff_eq, Bool.true_and, ne_eq, Decidable.not_not, Int.not_lt, Int.not_le, Nat.not_lt, Nat.not_le, strB_nil, strB_nil', strB_nnil, strB_nnil'] at h4
      try have hf0h4 := l00In_imp h4
      try have hf1h4 := l00In_imp h4.1
      try have hf2h4 := l00In_imp h4.2
      try have hf3h4 := l00In_imp h4.1.1
      try have hf4h4 := l00In_imp h4.1.2
      try have hf5h4 := l00In_imp h4.2.1
      try have hf6h4 := l00In_imp h4.2.2
      refine run_skip ?_
      refine run_seq ?_
      refine run_ro <| ro_lex (l1 := [_, _]) (l2 := [_, _, _]) rfl (q_move .n (.t rfl) rfl <|
          q_move .n (.t rfl) rfl <|
          Lex.nil) <|
          ro_freezeBL (l := 200) [3] ⟨rfl, trivial⟩ rfl rfl rfl <|
          ro_lex (l1 := [_, _, _]) (l2 := []) rfl (q_build (us := [.rp [.int .i64 m_.Junctions, .sl 7 (m_.Airways.map gAirway.v)], .sl 5 (list.map gPermit.v), .nls, .nls, .int .i64 (-1), .int .i64 0, .int .i64 budget, .bool false]) .n (.cons (.t rfl) (.cons (.t rfl) (.cons (.c rfl) (.cons (.t rfl) .nil)))) zv_104 pl_104 rfl rfl rfl <|
          q_box (l := 203) .n rfl (.t rfl) rfl rfl rfl rfl <|
          q_assign .n (.t rfl) rfl <|
          Lex.nil) <|
          ro_end ?_
      refine run_seq ?_
      refine run_sub (sub_adoptb (b := 203) (l := 204) (el := 2) (sz := 1) 2 rfl rfl rfl rfl) ?_
      refine run_sub (sub_adoptb (b := 203) (l := 205) (el := 2) (sz := 1) 3 rfl rfl rfl rfl) ?_
      refine run_region (q_move .n (.t rfl) rfl <|
          q_callM (full := false) [(0, 203), (12, 204), (13, 205)] [(100, 206), (101, 207)] .n rfl .f en_63 (.cons (.t rfl) (.cons (.c rfl) .nil)) (.cons (.b (.mutp rfl)) (.cons (.b (.a (.same rfl))) .nil)) (c_spec_l26Search_run (gl26Search.mk m_ list ([] : List Int) ([] : List Int) (-1) 0 budget false) 0 (by omega) (by omega) (by omega) (by (simp only [List.length_append, List.length_cons, List.length_nil, List.length_replicate, put_len] at * <;> omega)) (by ((intro y hy; exact absurd hy List.not_mem_nil)))) ⟨rfl, rfl, rfl, trivial⟩ rfl rfl (fun h => Bool.noConfusion h) (fun h => Bool.noConfusion h) rfl <|
          Lex.nil) ?_
      refine run_seq ?_
      refine run_seq ?_
      refine run_region (q_move .n (.t rfl) rfl <|
          q_nilc_ow .n (.t rfl) rfl <|
          q_fld_ow .n (.t rfl) fo_104_7 rfl <|
          q_ld1_ow .n (.t rfl) rfl (.inr rfl) (fun _ => rfl) rfl ic_4 rfl <|
          Lex.nil) ?_
      refine run_cond (.t rfl) rfl (fun h5 => ?_) (fun h5 => ?_)
      · try simp only [Bool.and_eq_true, Bool.or_eq_true, Bool.not_eq_true', Bool.and_eq_false_iff, Bool.or_eq_false_iff, Bool.not_eq_false', decide_eq_true_eq, decide_eq_false_iff_not, beq_iff_eq, bne_iff_ne, beq_eq_false_iff_ne, bne_eq_false_iff_eq, Bool.true_and, ne_eq, Decidable.not_not, Int.not_lt, Int.not_le, Nat.not_lt, Nat.not_le, strB_nil, strB_nil', strB_nnil, strB_nnil'] at h5
        refine run_seq ?_
        refine run_region (q_assign .n (.c rfl) rfl <|
            q_assign .n (.c rfl) rfl <|
            Lex.nil) ?_
        refine run_sub (sub_adopt (t := 6) (l := 208) (el := 2) (sz := 1) rfl rfl) ?_
        exact run_ret [(100, 208)] (.cons (.t rfl rfl) (.cons (.t rfl rfl) .nil)) (by first | rfl | (simp only [put_len]; rfl)) ⟨rfl, trivial⟩ rfl
      · try simp only [Bool.and_eq_true, Bool.or_eq_true, Bool.not_eq_true', Bool.and_eq_false_iff, Bool.or_eq_false_iff, Bool.not_eq_false', decide_eq_true_eq, decide_eq_false_iff_not, beq_iff_eq, bne_iff_ne, beq_eq_false_iff_ne, bne_eq_false_iff_eq, Bool.true_and, ne_eq, Decidable.not_not, Int.not_lt, Int.not_le, Nat.not_lt, Nat.not_le, strB_nil, strB_nil', strB_nnil, strB_nnil'] at h5
        refine run_skip ?_
        refine run_seq ?_
        refine run_region (q_move .n (.t rfl) rfl <|
            q_nilc_ow .n (.t rfl) rfl <|
            q_fld_ow .n (.t rfl) fo_104_3 rfl <|
            q_ld1_ow .n (.t rfl) rfl (.inr rfl) (fun _ => rfl) rfl ic_25 rfl <|
            q_assign .n (.t rfl) rfl <|
            q_assign .n (.c rfl) rfl <|
            Lex.nil) ?_
        exact run_ret [(100, 207)] (.cons (.t rfl rfl) (.cons (.t rfl rfl) .nil)) (by first | rfl | (simp only [put_len]; rfl)) ⟨rfl, trivial⟩ rfl

/-! ### laws_toPermit -/
theorem c_laws_toPermit (a : gPermit) : Con Try.prog 64 [.st [.str a.Id, .int .i64 a.Kind, .int .i64 a.Airway, .int .i64 a.From, .int .i64 a.Until]] [] (.st [.str (m_laws_toPermit a).Id, .int .i64 (m_laws_toPermit a).Kind, .int .i64 (m_laws_toPermit a).Airway, .int .i64 (m_laws_toPermit a).From, .int .i64 (m_laws_toPermit a).Until]) ([]) := by
  refine con_intro (out := fun r : gPermit => ((.st [.str r.Id, .int .i64 r.Kind, .int .i64 r.Airway, .int .i64 r.From, .int .i64 r.Until] : V), ([] : List (Nat × Option O)))) (r := (m_laws_toPermit a)) Try.func64 rfl Try.ntmps64 rfl ?_
  refine run_seq ?_
  refine run_region (q_box (l := 200) .n rfl (.t rfl) rfl rfl rfl rfl <|
      q_alloc (l := 201) .n rfl zv_105 rfl rfl <|
      Lex.nil) ?_
  refine run_seq ?_
  refine run_region (q_alloc (l := 202) .n rfl zv_105 rfl rfl <|
      Lex.nil) ?_
  refine run_seq ?_
  refine run_region (q_fld_ow .n (.t rfl) fo_99_0 rfl <|
      q_ld1_ow .n (.t rfl) rfl (.inr rfl) (fun _ => rfl) rfl ic_9 rfl <|
      q_fld_ow .n (.t rfl) fo_105_0 rfl <|
      q_st_boxm [.str a.Id, .int .i64 0, .int .i64 0, .int .i64 0, .int .i64 0] .n rfl (.t rfl) (.t rfl) rfl ts_9 rfl rfl <|
      Lex.nil) ?_
  refine run_seq ?_
  refine run_region (q_fld_ow .n (.t rfl) fo_99_1 rfl <|
      q_ld1_ow .n (.t rfl) rfl (.inr rfl) (fun _ => rfl) rfl ic_2 rfl <|
      q_fld_ow .n (.t rfl) fo_105_1 rfl <|
      q_st_boxm [.str a.Id, .int .i64 a.Kind, .int .i64 0, .int .i64 0, .int .i64 0] .n rfl (.t rfl) (.t rfl) rfl ts_2 rfl rfl <|
      Lex.nil) ?_
  refine run_seq ?_
  refine run_region (q_fld_ow .n (.t rfl) fo_99_2 rfl <|
      q_ld1_ow .n (.t rfl) rfl (.inr rfl) (fun _ => rfl) rfl ic_2 rfl <|
      q_fld_ow .n (.t rfl) fo_105_2 rfl <|
      q_st_boxm [.str a.Id, .int .i64 a.Kind, .int .i64 a.Airway, .int .i64 0, .int .i64 0] .n rfl (.t rfl) (.t rfl) rfl ts_2 rfl rfl <|
      Lex.nil) ?_
  refine run_seq ?_
  refine run_region (q_fld_ow .n (.t rfl) fo_99_3 rfl <|
      q_ld1_ow .n (.t rfl) rfl (.inr rfl) (fun _ => rfl) rfl ic_2 rfl <|
      q_fld_ow .n (.t rfl) fo_105_3 rfl <|
      q_st_boxm [.str a.Id, .int .i64 a.Kind, .int .i64 a.Airway, .int .i64 a.From, .int .i64 0] .n rfl (.t rfl) (.t rfl) rfl ts_2 rfl rfl <|
      Lex.nil) ?_
  refine run_seq ?_
  refine run_region (q_fld_ow .n (.t rfl) fo_99_4 rfl <|
      q_ld1_ow .n (.t rfl) rfl (.inr rfl) (fun _ => rfl) rfl ic_2 rfl <|
      q_fld_ow .n (.t rfl) fo_105_4 rfl <|
      q_st_boxm [.str a.Id, .int .i64 a.Kind, .int .i64 a.Airway, .int .i64 a.From, .int .i64 a.Until] .n rfl (.t rfl) (.t rfl) rfl ts_2 rfl rfl <|
      Lex.nil) ?_
  refine run_seq ?_
  refine run_region (q_ldN_ow .n (.t rfl) rfl (.inr rfl) ag_105 (fun _ => rfl) rfl rfl <|
      q_st_boxm [.str a.Id, .int .i64 a.Kind, .int .i64 a.Airway, .int .i64 a.From, .int .i64 a.Until] .n rfl (.t rfl) (.t rfl) rfl ts_105 rfl rfl <|
      Lex.nil) ?_
  exact run_ret [] (.cons (.cN rfl rfl ag_105 rfl rfl) .nil) (by first | rfl | (simp only [put_len]; rfl)) trivial rfl

/-! ### laws_toPermitS -/
theorem c_laws_toPermitS (a : List gPermit) (hp1 : a.length ≤ 1048576 ∧ ∀ y ∈ a, gPermit.sz y) : Con Try.prog 25 [.sl 5 (a.map gPermit.v)] [] (.os 100 (m_laws_toPermitS a).length) ([(100, some (.row 105 5 ((m_laws_toPermitS a).map gPermit.v)))]) := by
  refine con_intro (out := fun r : (List gPermit) => ((.os 100 r.length : V), ([(100, some (.row 105 5 (r.map gPermit.v)))] : List (Nat × Option O)))) (r := (m_laws_toPermitS a)) Try.func25 rfl Try.ntmps25 rfl ?_
  refine run_fact (t := 0) rfl fun hl => ?_
  have l1 := hl; clear hl; simp only [List.length_map] at l1
  refine run_seq ?_
  refine run_region (q_assign .n (.c rfl) rfl <|
      Lex.nil) ?_
  refine run_seq ?_
  refine run_region (q_move .n (.t rfl) rfl <|
      q_len .n (.t rfl) rfl len_map ss_47 rfl <|
      q_makem (f := gPermit.v) (l := 200) (gPermit.mk ([] : List UInt8) 0 0 0 0 : gPermit) .n rfl (.t rfl) (.t rfl) si_50 zv_105 (by omega) rfl rfl rfl <|
      q_assign .n (.t rfl) rfl <|
      Lex.nil) ?_
  refine run_seq ?_
  refine run_seq ?_
  refine run_region (q_assign .n (.c rfl) rfl <|
      Lex.nil) ?_
  refine run_block ?_
  refine run_LOOP (m_laws_toPermitS_b1 a) _ _ _ rfl (fun (x1 : (List gPermit) × Int) => 0 ≤ x1.2 ∧ x1.2 ≤ (a.length : Int) ∧ x1.1.length = (List.replicate ((a.length : Int) : Int).toNat (gPermit.mk ([] : List UInt8) 0 0 0 0 : gPermit)).length) (fun x1 => 0 ≤ x1.2 ∧ x1.2 ≤ (a.length : Int) ∧ x1.1.length = (List.replicate ((a.length : Int) : Int).toNat (gPermit.mk ([] : List UInt8) 0 0 0 0 : gPermit)).length ∧ (a.length : Int) ≤ x1.2) (fun x1 => ((a.length : Int) - x1.2 : Int).toNat) (fun x1 => ⟨[(0, some (true, .sl 5 (a.map gPermit.v))), (3, some (true, .os 200 x1.1.length)), (4, some (true, .int .i64 x1.2))], [(200, some (.row 105 5 (x1.1.map gPermit.v)))]⟩) (fun x1 => ⟨[(3, some (true, .os 200 x1.1.length))], [(200, some (.row 105 5 (x1.1.map gPermit.v)))]⟩) ⟨by omega, by omega, by (simp only [List.length_append, List.length_cons, List.length_nil, List.length_replicate, put_len] at * <;> omega)⟩ (by omega) (sub_of [] ⟨rfl, rfl, rfl, trivial⟩ ⟨rfl, trivial⟩ rfl) ?_ ?_
  · intro x1 i5
    obtain ⟨e6, e7, e8, e9⟩ := i5
    try dsimp only at *
    refine run_seq ?_
    refine run_region (q_move .n (.t rfl) rfl <|
        q_assign .n (.t rfl) rfl <|
        Lex.nil) ?_
    exact run_ret [(100, 200)] (.cons (.t rfl rfl) .nil) (by first | rfl | (simp only [put_len]; rfl)) ⟨rfl, trivial⟩ rfl
  · intro rec1 k1 hk2 x1 i3
    obtain ⟨e10, e11, e12⟩ := i3
    try dsimp only at *
    refine run_seq ?_
    refine run_seq ?_
    refine run_region (q_move .n (.t rfl) rfl <|
        q_move .n (.t rfl) rfl <|
        q_len .n (.t rfl) rfl len_map ss_47 rfl <|
        q_int .n (.t rfl) (.t rfl) rfl rfl <|
        Lex.nil) ?_
    refine run_cond (.t rfl) rfl (fun h4 => ?_) (fun h4 => ?_)
    · try simp only [Bool.and_eq_true, Bool.or_eq_true, Bool.not_eq_true', Bool.and_eq_false_iff, Bool.or_eq_false_iff, Bool.not_eq_false', decide_eq_true_eq, decide_eq_false_iff_not, beq_iff_eq, bne_iff_ne, beq_eq_false_iff_ne, bne_eq_false_iff_eq, Bool.true_and, ne_eq, Decidable.not_not, Int.not_lt, Int.not_le, Nat.not_lt, Nat.not_le, strB_nil, strB_nil', strB_nnil, strB_nnil'] at h4
      refine run_skip ?_
      refine run_seq ?_
      refine run_block ?_
      refine run_region (q_move .n (.t rfl) rfl <|
          q_move .n (.t rfl) rfl <|
          q_move .n (.t rfl) rfl <|
          q_move .n (.t rfl) rfl <|
          q_idx_rm .n (.t rfl) (.t rfl) sl_47 (fun _ => by omega) rfl <|
          q_ldN_ro .n (.t rfl) ag_99 rfl rfl rfl <|
          q_call0 (full := false) .n .f en_64 (.cons (.t rfl) .nil) (.cons (.sts rfl) .nil) (fun hg => c_laws_toPermit (at' a x1.2)) rfl (fun h => Bool.noConfusion h) rfl <|
          q_idx_ow .n (.t rfl) (.t rfl) sl_50 (fun _ => by (simp only [List.length_append, List.length_cons, List.length_nil, List.length_replicate, put_len] at * <;> omega)) rfl <|
          q_st_rowm (m_laws_toPermit (at' a x1.2)) .n rfl (.t rfl) (.t rfl) rfl ts_105 (by (simp only [List.length_append, List.length_cons, List.length_nil, List.length_replicate, put_len] at * <;> omega)) rfl rfl <|
          Lex.nil) ?_
      refine run_endB ?_
      refine run_region (q_move .n (.t rfl) rfl <|
          q_add .n (.t rfl) (.c rfl) (fun _ => by omega) rfl <|
          q_assign .n (.t rfl) rfl <|
          Lex.nil) ?_
      exact run_again (put' x1.1 x1.2 (m_laws_toPermit (at' a x1.2)), x1.2 + 1) ⟨by omega, by omega, by (simp only [List.length_append, List.length_cons, List.length_nil, List.length_replicate, put_len] at * <;> omega)⟩ (by omega) (sub_of [] ⟨rfl, os_len rfl (by first | (simp only [put_len]; done) | (first | omega | assumption | (simp only [List.length_append, List.length_cons, List.length_nil, List.length_replicate, put_len] at * <;> omega) | ((exact hp1.2); done) | ((exact at_all hp1.2 (by omega)); done) | ((exact hp1.1); done) | ((exact hp1); done))), rfl, trivial⟩ ⟨rfl, trivial⟩ rfl)
    · try simp only [Bool.and_eq_true, Bool.or_eq_true, Bool.not_eq_true', Bool.and_eq_false_iff, Bool.or_eq_false_iff, Bool.not_eq_false', decide_eq_true_eq, decide_eq_false_iff_not, beq_iff_eq, bne_iff_ne, beq_eq_false_iff_ne, bne_eq_false_iff_eq, Bool.true_and, ne_eq, Decidable.not_not, Int.not_lt, Int.not_le, Nat.not_lt, Nat.not_le, strB_nil, strB_nil', strB_nnil, strB_nnil'] at h4
      refine run_exit rfl ?_
      exact run_cont hk2 (x1.1, x1.2) ⟨by omega, by omega, by omega, by omega⟩ (sub_of [] ⟨rfl, trivial⟩ ⟨rfl, trivial⟩ rfl)

/-! ### impl_within -/
theorem c_impl_within (n_ : Int) (low : Int) (high : Int) : Con Try.prog 85 [.int .i64 n_, .int .i64 low, .int .i64 high] [] (.bool (m_impl_within n_ low high)) ([]) := by
  refine con_intro (out := fun r : Bool => ((.bool r : V), ([] : List (Nat × Option O)))) (r := (m_impl_within n_ low high)) Try.func85 rfl Try.ntmps85 rfl ?_
  refine run_seq ?_
  refine run_region (q_assign .n (.c rfl) rfl <|
      Lex.nil) ?_
  refine run_seq ?_
  refine run_region (q_move .n (.t rfl) rfl <|
      q_move .n (.t rfl) rfl <|
      q_int .n (.t rfl) (.t rfl) rfl rfl <|
      q_move .n (.t rfl) rfl <|
      q_move (.t rfl rfl) (.t rfl) rfl <|
      q_move (.t rfl rfl) (.t rfl) rfl <|
      q_int (.t rfl rfl) (.u rfl id) (.u rfl id) rfl rfl <|
      q_and .n (.t rfl) (.u rfl id) rfl <|
      q_assign .n (.t rfl) rfl <|
      Lex.nil) ?_
  exact run_ret [] (.cons (.t rfl rfl) .nil) rfl trivial rfl

/-! ### impl_budgetValid -/
theorem c_impl_budgetValid (budget : Int) : Con Try.prog 48 [.int .i64 budget] [] (.bool (m_impl_budgetValid budget)) ([]) := by
  refine con_intro (out := fun r : Bool => ((.bool r : V), ([] : List (Nat × Option O)))) (r := (m_impl_budgetValid budget)) Try.func48 rfl Try.ntmps48 rfl ?_
  refine run_seq ?_
  refine run_region (q_assign .n (.c rfl) rfl <|
      Lex.nil) ?_
  refine run_seq ?_
  refine run_region (q_move .n (.t rfl) rfl <|
      q_call0 (full := false) .n .f en_85 (.cons (.t rfl) (.cons (.c rfl) (.cons (.c rfl) .nil))) (.cons (.b (.a (.same rfl))) (.cons (.b (.a (.same rfl))) (.cons (.b (.a (.same rfl))) .nil))) (fun hg => c_impl_within budget 1 20000) rfl (fun h => Bool.noConfusion h) rfl <|
      q_assign .n (.t rfl) rfl <|
      Lex.nil) ?_
  exact run_ret [] (.cons (.t rfl rfl) .nil) rfl trivial rfl

/-! ### impl_onlyNameBytes -/
theorem c_impl_onlyNameBytes (s_ : List UInt8) (hp1 : s_.length ≤ 10) : Con Try.prog 130 [.str s_] [] (.bool (m_impl_onlyNameBytes s_)) ([]) := by
  refine con_intro (out := fun r : Bool => ((.bool r : V), ([] : List (Nat × Option O)))) (r := (m_impl_onlyNameBytes s_)) Try.func130 rfl Try.ntmps130 rfl ?_
  refine run_seq ?_
  refine run_region (q_assign .n (.c rfl) rfl <|
      Lex.nil) ?_
  refine run_seq ?_
  refine run_seq ?_
  refine run_region (q_move .n (.t rfl) rfl <|
      q_len .n (.t rfl) rfl rfl st_9 rfl <|
      q_move .n (.c rfl) rfl <|
      Lex.nil) ?_
  refine run_block ?_
  refine run_LOOP (m_impl_onlyNameBytes_b1 s_) _ _ _ rfl (fun (x1 : Int) => 0 ≤ x1 ∧ x1 ≤ (s_.length : Int)) (fun x1 => 0 ≤ x1 ∧ x1 ≤ (s_.length : Int) ∧ (s_.length : Int) ≤ x1) (fun x1 => ((s_.length : Int) - x1 : Int).toNat) (fun x1 => ⟨[(0, some (true, .str s_)), (6, some (true, .int .i64 (s_.length : Int))), (7, some (true, .int .i64 x1))], []⟩) (fun x1 => ⟨[], []⟩) ⟨by omega, by omega⟩ (by omega) (sub_of [] ⟨rfl, rfl, rfl, trivial⟩ trivial rfl) ?_ ?_
  · intro x1 i5
    obtain ⟨e6, e7, e8⟩ := i5
    try dsimp only at *
    refine run_seq ?_
    refine run_region (q_assign .n (.c rfl) rfl <|
        Lex.nil) ?_
    exact run_ret [] (.cons (.t rfl rfl) .nil) rfl trivial rfl
  · intro rec1 k1 hk1 x1 i2
    obtain ⟨e9, e10⟩ := i2
    try dsimp only at *
    refine run_seq ?_
    refine run_region (q_int .n (.t rfl) (.t rfl) rfl rfl <|
        Lex.nil) ?_
    refine run_seq ?_
    refine run_cond (.t rfl) rfl (fun h3 => ?_) (fun h3 => ?_)
    · try simp only [Bool.and_eq_true, Bool.or_eq_true, Bool.not_eq_true', Bool.and_eq_false_iff, Bool.or_eq_false_iff, Bool.not_eq_false', decide_eq_true_eq, decide_eq_false_iff_not, beq_iff_eq, bne_iff_ne, beq_eq_false_iff_ne, bne_eq_false_iff_eq, Bool.true_and, ne_eq, Decidable.not_not, Int.not_lt, Int.not_le, Nat.not_lt, Nat.not_le, strB_nil, strB_nil', strB_nnil, strB_nnil'] at h3
      refine run_skip ?_
      refine run_seq ?_
      refine run_block ?_
      refine run_seq ?_
      refine run_region (q_move .n (.t rfl) rfl <|
          q_assign .n (.t rfl) rfl <|
          Lex.nil) ?_
      refine run_seq ?_
      refine run_region (q_move .n (.t rfl) rfl <|
          q_move .n (.t rfl) rfl <|
          q_strat .n (.t rfl) (.t rfl) st_9 (fun _ => by omega) rfl <|
          q_assign .n (.t rfl) rfl <|
          Lex.nil) ?_
      refine run_seq ?_
      refine run_region (q_move .n (.t rfl) rfl <|
          q_int .n (.t rfl) (.c rfl) rfl rfl <|
          q_move .n (.t rfl) rfl <|
          q_move (.f rfl rfl) (.t rfl) rfl <|
          q_int (.f rfl rfl) (.u rfl id) (.c rfl) rfl rfl <|
          q_or .n (.t rfl) (.u rfl id) rfl <|
          q_move .n (.t rfl) rfl <|
          q_move (.t rfl rfl) (.t rfl) rfl <|
          q_int (.t rfl rfl) (.u rfl id) (.c rfl) rfl rfl <|
          q_move (.t rfl rfl) (.u rfl id) rfl <|
          q_move (.f rfl rfl) (.t rfl) rfl <|
          q_int (.f rfl rfl) (.u rfl id) (.c rfl) rfl rfl <|
          q_or (.t rfl rfl) (.u rfl id) (.u rfl id) rfl <|
          q_and .n (.t rfl) (.u rfl id) rfl <|
          Lex.nil) ?_
      refine run_cond (.t rfl) rfl (fun h4 => ?_) (fun h4 => ?_)
      · try simp only [Bool.and_eq_true, Bool.or_eq_true, Bool.not_eq_true', Bool.and_eq_false_iff, Bool.or_eq_false_iff, Bool.not_eq_false', decide_eq_true_eq, decide_eq_false_iff_not, beq_iff_eq, bne_iff_ne, beq_eq_false_iff_ne, bne_eq_false_iff_eq, Bool.true_and, ne_eq, Decidable.not_not, Int.not_lt, Int.not_le, Nat.not_lt, Nat.not_le, strB_nil, strB_nil', strB_nnil, strB_nnil'] at h4
        refine run_seq ?_
        refine run_region (q_assign .n (.c rfl) rfl <|
            Lex.nil) ?_
        exact run_ret [] (.cons (.t rfl rfl) .nil) rfl trivial rfl
      · try simp only [Bool.and_eq_true, Bool.or_eq_true, Bool.not_eq_true', Bool.and_eq_false_iff, Bool.or_eq_false_iff, Bool.not_eq_false', decide_eq_true_eq, decide_eq_false_iff_not, beq_iff_eq, bne_iff_ne, beq_eq_false_iff_ne, bne_eq_false_iff_eq, Bool.true_and, ne_eq, Decidable.not_not, Int.not_lt, Int.not_le, Nat.not_lt, Nat.not_le, strB_nil, strB_nil', strB_nnil, strB_nnil'] at h4
        refine run_skip ?_
        refine run_endB ?_
        refine run_region (q_add .n (.t rfl) (.c rfl) (fun _ => by omega) rfl <|
            q_move .n (.t rfl) rfl <|
            Lex.nil) ?_
        exact run_again (x1 + 1) ⟨by omega, by omega⟩ (by omega) (sub_of [] ⟨rfl, rfl, rfl, trivial⟩ trivial rfl)
    · try simp only [Bool.and_eq_true, Bool.or_eq_true, Bool.not_eq_true', Bool.and_eq_false_iff, Bool.or_eq_false_iff, Bool.not_eq_false', decide_eq_true_eq, decide_eq_false_iff_not, beq_iff_eq, bne_iff_ne, beq_eq_false_iff_ne, bne_eq_false_iff_eq, Bool.true_and, ne_eq, Decidable.not_not, Int.not_lt, Int.not_le, Nat.not_lt, Nat.not_le, strB_nil, strB_nil', strB_nnil, strB_nnil'] at h3
      refine run_exit rfl ?_
      exact run_cont hk1 x1 ⟨by omega, by omega, by omega⟩ (sub_of [] trivial trivial rfl)

/-! ### impl_IsName -/
theorem c_impl_IsName (s_ : List UInt8) : Con Try.prog 109 [.str s_] [] (.bool (m_impl_IsName s_)) ([]) := by
  refine con_intro (out := fun r : Bool => ((.bool r : V), ([] : List (Nat × Option O)))) (r := (m_impl_IsName s_)) Try.func109 rfl Try.ntmps109 rfl ?_
  refine run_seq ?_
  refine run_region (q_assign .n (.c rfl) rfl <|
      Lex.nil) ?_
  refine run_seq ?_
  refine run_seq ?_
  refine run_region (q_move .n (.t rfl) rfl <|
      q_len .n (.t rfl) rfl rfl st_9 rfl <|
      q_int .n (.t rfl) (.c rfl) rfl rfl <|
      q_move .n (.t rfl) rfl <|
      q_move (.f rfl rfl) (.t rfl) rfl <|
      q_len (.f rfl rfl) (.u rfl id) rfl rfl st_9 rfl <|
      q_int (.f rfl rfl) (.u rfl id) (.c rfl) rfl rfl <|
      q_or .n (.t rfl) (.u rfl id) rfl <|
      q_move .n (.t rfl) rfl <|
      q_move (.f rfl rfl) (.t rfl) rfl <|
      q_strat (.f rfl rfl) (.u rfl id) (.c rfl) st_9 (fun hg => by simp only [Bool.and_eq_true, Bool.or_eq_true, Bool.not_eq_true', Bool.and_eq_false_iff, Bool.or_eq_false_iff, Bool.not_eq_false', decide_eq_true_eq, decide_eq_false_iff_not, beq_iff_eq, bne_iff_ne, beq_eq_false_iff_ne, bne_eq_false_iff_eq, Bool.true_and, ne_eq, Decidable.not_not, Int.not_lt, Int.not_le, Nat.not_lt, Nat.not_le, strB_nil, strB_nil', strB_nnil, strB_nnil'] at hg; omega) rfl <|
      q_int (.f rfl rfl) (.u rfl id) (.c rfl) rfl rfl <|
      q_or .n (.t rfl) (.u rfl id) rfl <|
      q_move .n (.t rfl) rfl <|
      q_move (.f rfl rfl) (.t rfl) rfl <|
      q_strat (.f rfl rfl) (.u rfl id) (.c rfl) st_9 (fun hg => by simp only [Bool.and_eq_true, Bool.or_eq_true, Bool.not_eq_true', Bool.and_eq_false_iff, Bool.or_eq_false_iff, Bool.not_eq_false', decide_eq_true_eq, decide_eq_false_iff_not, beq_iff_eq, bne_iff_ne, beq_eq_false_iff_ne, bne_eq_false_iff_eq, Bool.true_and, ne_eq, Decidable.not_not, Int.not_lt, Int.not_le, Nat.not_lt, Nat.not_le, strB_nil, strB_nil', strB_nnil, strB_nnil'] at hg; omega) rfl <|
      q_int (.f rfl rfl) (.u rfl id) (.c rfl) rfl rfl <|
      q_or .n (.t rfl) (.u rfl id) rfl <|
      Lex.nil) ?_
  refine run_cond (.t rfl) rfl (fun h1 => ?_) (fun h1 => ?_)
  · try simp only [Bool.and_eq_true, Bool.or_eq_true, Bool.not_eq_true', Bool.and_eq_false_iff, Bool.or_eq_false_iff, Bool.not_eq_false', decide_eq_true_eq, decide_eq_false_iff_not, beq_iff_eq, bne_iff_ne, beq_eq_false_iff_ne, bne_eq_false_iff_eq, Bool.true_and, ne_eq, Decidable.not_not, Int.not_lt, Int.not_le, Nat.not_lt, Nat.not_le, strB_nil, strB_nil', strB_nnil, strB_nnil'] at h1
    refine run_seq ?_
    refine run_region (q_assign .n (.c rfl) rfl <|
        Lex.nil) ?_
    exact run_ret [] (.cons (.t rfl rfl) .nil) rfl trivial rfl
  · try simp only [Bool.and_eq_true, Bool.or_eq_true, Bool.not_eq_true', Bool.and_eq_false_iff, Bool.or_eq_false_iff, Bool.not_eq_false', decide_eq_true_eq, decide_eq_false_iff_not, beq_iff_eq, bne_iff_ne, beq_eq_false_iff_ne, bne_eq_false_iff_eq, Bool.true_and, ne_eq, Decidable.not_not, Int.not_lt, Int.not_le, Nat.not_lt, Nat.not_le, strB_nil, strB_nil', strB_nnil, strB_nnil'] at h1
    refine run_skip ?_
    refine run_seq ?_
    refine run_region (q_move .n (.t rfl) rfl <|
        q_call0 (full := false) .n .f en_130 (.cons (.t rfl) .nil) (.cons (.b (.a (.same rfl))) .nil) (fun hg => c_impl_onlyNameBytes s_ (by omega)) rfl (fun h => Bool.noConfusion h) rfl <|
        q_assign .n (.t rfl) rfl <|
        Lex.nil) ?_
    exact run_ret [] (.cons (.t rfl rfl) .nil) rfl trivial rfl

/-! ### impl_junctionOk -/
theorem c_impl_junctionOk (n_ : Int) : Con Try.prog 134 [.int .i64 n_] [] (.bool (m_impl_junctionOk n_)) ([]) := by
  refine con_intro (out := fun r : Bool => ((.bool r : V), ([] : List (Nat × Option O)))) (r := (m_impl_junctionOk n_)) Try.func134 rfl Try.ntmps134 rfl ?_
  refine run_seq ?_
  refine run_region (q_assign .n (.c rfl) rfl <|
      Lex.nil) ?_
  refine run_seq ?_
  refine run_region (q_move .n (.t rfl) rfl <|
      q_call0 (full := false) .n .f en_85 (.cons (.t rfl) (.cons (.c rfl) (.cons (.c rfl) .nil))) (.cons (.b (.a (.same rfl))) (.cons (.b (.a (.same rfl))) (.cons (.b (.a (.same rfl))) .nil))) (fun hg => c_impl_within n_ 0 15) rfl (fun h => Bool.noConfusion h) rfl <|
      q_assign .n (.t rfl) rfl <|
      Lex.nil) ?_
  exact run_ret [] (.cons (.t rfl rfl) .nil) rfl trivial rfl

/-! ### impl_ValidAirway -/
theorem c_impl_ValidAirway (a : gAirway) : Con Try.prog 121 [.st [.str a.Id, .int .i64 a.From, .int .i64 a.To, .int .i64 a.Length, .int .i64 a.Section, .int .i64 a.Friction, .int .i64 a.Shock]] [] (.bool (m_impl_ValidAirway a)) ([]) := by
  refine con_intro (out := fun r : Bool => ((.bool r : V), ([] : List (Nat × Option O)))) (r := (m_impl_ValidAirway a)) Try.func121 rfl Try.ntmps121 rfl ?_
  refine run_seq ?_
  refine run_region (q_box (l := 200) .n rfl (.t rfl) rfl rfl rfl rfl <|
      q_assign .n (.c rfl) rfl <|
      Lex.nil) ?_
  refine run_seq ?_
  refine run_region (q_fld_ow .n (.t rfl) fo_127_0 rfl <|
      q_ld1_ow .n (.t rfl) rfl (.inr rfl) (fun _ => rfl) rfl ic_9 rfl <|
      q_call0 (full := false) .n .f en_109 (.cons (.t rfl) .nil) (.cons (.b (.a (.same rfl))) .nil) (fun hg => c_impl_IsName a.Id) rfl (fun h => Bool.noConfusion h) rfl <|
      q_move .n (.t rfl) rfl <|
      q_fld_ow (.t rfl rfl) (.t rfl) fo_127_1 rfl <|
      q_ld1_ow (.t rfl rfl) (.u rfl id) rfl (.inr rfl) (fun _ => rfl) rfl ic_2 rfl <|
      q_call0 (full := false) (.t rfl rfl) .f en_134 (.cons (.u rfl id) .nil) (.cons (.b (.a (.same rfl))) .nil) (fun hg => c_impl_junctionOk a.From) rfl (fun h => Bool.noConfusion h) rfl <|
      q_and .n (.t rfl) (.u rfl id) rfl <|
      q_move .n (.t rfl) rfl <|
      q_fld_ow (.t rfl rfl) (.t rfl) fo_127_2 rfl <|
      q_ld1_ow (.t rfl rfl) (.u rfl id) rfl (.inr rfl) (fun _ => rfl) rfl ic_2 rfl <|
      q_call0 (full := false) (.t rfl rfl) .f en_134 (.cons (.u rfl id) .nil) (.cons (.b (.a (.same rfl))) .nil) (fun hg => c_impl_junctionOk a.To) rfl (fun h => Bool.noConfusion h) rfl <|
      q_and .n (.t rfl) (.u rfl id) rfl <|
      q_move .n (.t rfl) rfl <|
      q_fld_ow (.t rfl rfl) (.t rfl) fo_127_1 rfl <|
      q_ld1_ow (.t rfl rfl) (.u rfl id) rfl (.inr rfl) (fun _ => rfl) rfl ic_2 rfl <|
      q_fld_ow (.t rfl rfl) (.t rfl) fo_127_2 rfl <|
      q_ld1_ow (.t rfl rfl) (.u rfl id) rfl (.inr rfl) (fun _ => rfl) rfl ic_2 rfl <|
      q_int (.t rfl rfl) (.u rfl id) (.u rfl id) rfl rfl <|
      q_and .n (.t rfl) (.u rfl id) rfl <|
      q_move .n (.t rfl) rfl <|
      q_fld_ow (.t rfl rfl) (.t rfl) fo_127_3 rfl <|
      q_ld1_ow (.t rfl rfl) (.u rfl id) rfl (.inr rfl) (fun _ => rfl) rfl ic_2 rfl <|
      q_call0 (full := false) (.t rfl rfl) .f en_85 (.cons (.u rfl id) (.cons (.c rfl) (.cons (.c rfl) .nil))) (.cons (.b (.a (.same rfl))) (.cons (.b (.a (.same rfl))) (.cons (.b (.a (.same rfl))) .nil))) (fun hg => c_impl_within a.Length 1 10000) rfl (fun h => Bool.noConfusion h) rfl <|
      q_and .n (.t rfl) (.u rfl id) rfl <|
      q_move .n (.t rfl) rfl <|
      q_fld_ow (.t rfl rfl) (.t rfl) fo_127_4 rfl <|
      q_ld1_ow (.t rfl rfl) (.u rfl id) rfl (.inr rfl) (fun _ => rfl) rfl ic_2 rfl <|
      q_call0 (full := false) (.t rfl rfl) .f en_85 (.cons (.u rfl id) (.cons (.c rfl) (.cons (.c rfl) .nil))) (.cons (.b (.a (.same rfl))) (.cons (.b (.a (.same rfl))) (.cons (.b (.a (.same rfl))) .nil))) (fun hg => c_impl_within a.Section 50 5000) rfl (fun h => Bool.noConfusion h) rfl <|
      q_and .n (.t rfl) (.u rfl id) rfl <|
      q_move .n (.t rfl) rfl <|
      q_fld_ow (.t rfl rfl) (.t rfl) fo_127_5 rfl <|
      q_ld1_ow (.t rfl rfl) (.u rfl id) rfl (.inr rfl) (fun _ => rfl) rfl ic_2 rfl <|
      q_call0 (full := false) (.t rfl rfl) .f en_85 (.cons (.u rfl id) (.cons (.c rfl) (.cons (.c rfl) .nil))) (.cons (.b (.a (.same rfl))) (.cons (.b (.a (.same rfl))) (.cons (.b (.a (.same rfl))) .nil))) (fun hg => c_impl_within a.Friction 1 1000) rfl (fun h => Bool.noConfusion h) rfl <|
      q_and .n (.t rfl) (.u rfl id) rfl <|
      q_move .n (.t rfl) rfl <|
      q_fld_ow (.t rfl rfl) (.t rfl) fo_127_6 rfl <|
      q_ld1_ow (.t rfl rfl) (.u rfl id) rfl (.inr rfl) (fun _ => rfl) rfl ic_2 rfl <|
      q_call0 (full := false) (.t rfl rfl) .f en_85 (.cons (.u rfl id) (.cons (.c rfl) (.cons (.c rfl) .nil))) (.cons (.b (.a (.same rfl))) (.cons (.b (.a (.same rfl))) (.cons (.b (.a (.same rfl))) .nil))) (fun hg => c_impl_within a.Shock 0 1000) rfl (fun h => Bool.noConfusion h) rfl <|
      q_and .n (.t rfl) (.u rfl id) rfl <|
      q_assign .n (.t rfl) rfl <|
      Lex.nil) ?_
  exact run_ret [] (.cons (.t rfl rfl) .nil) rfl trivial rfl

/-! ### impl_Mine_hasJunction -/
theorem c_impl_Mine_hasJunction (m_ : gMine) (n_ : Int) : Con Try.prog 135 [.st [.int .i64 m_.Junctions, .sl 7 (m_.Airways.map gAirway.v)], .int .i64 n_] [] (.bool (m_impl_Mine_hasJunction m_ n_)) ([]) := by
  refine con_intro (out := fun r : Bool => ((.bool r : V), ([] : List (Nat × Option O)))) (r := (m_impl_Mine_hasJunction m_ n_)) Try.func135 rfl Try.ntmps135 rfl ?_
  refine run_factS (t := 0) 1 rfl rfl fun hl => ?_
  have l1 := hl; clear hl; simp only [List.length_map] at l1
  refine run_seq ?_
  refine run_region (q_box (l := 200) .n rfl (.t rfl) rfl rfl rfl rfl <|
      q_assign .n (.c rfl) rfl <|
      Lex.nil) ?_
  refine run_seq ?_
  refine run_region (q_move .n (.t rfl) rfl <|
      q_fld_ow .n (.t rfl) fo_33_0 rfl <|
      q_ld1_ow .n (.t rfl) rfl (.inr rfl) (fun _ => rfl) rfl ic_2 rfl <|
      q_int .n (.t rfl) (.c rfl) rfl rfl <|
      q_call0 (full := false) .n .f en_85 (.cons (.t rfl) (.cons (.c rfl) (.cons (.t rfl) .nil))) (.cons (.b (.a (.same rfl))) (.cons (.b (.a (.same rfl))) (.cons (.b (.a (.same rfl))) .nil))) (fun hg => c_impl_within n_ 0 (IntKind.wrap .i64 (m_.Junctions - 1))) rfl (fun h => Bool.noConfusion h) rfl <|
      q_assign .n (.t rfl) rfl <|
      Lex.nil) ?_
  exact run_ret [] (.cons (.t rfl rfl) .nil) rfl trivial rfl

/-! ### impl_Mine_hasEnds -/
theorem c_impl_Mine_hasEnds (m_ : gMine) (a : gAirway) : Con Try.prog 122 [.st [.int .i64 m_.Junctions, .sl 7 (m_.Airways.map gAirway.v)], .st [.str a.Id, .int .i64 a.From, .int .i64 a.To, .int .i64 a.Length, .int .i64 a.Section, .int .i64 a.Friction, .int .i64 a.Shock]] [] (.bool (m_impl_Mine_hasEnds m_ a)) ([]) := by
  refine con_intro (out := fun r : Bool => ((.bool r : V), ([] : List (Nat × Option O)))) (r := (m_impl_Mine_hasEnds m_ a)) Try.func122 rfl Try.ntmps122 rfl ?_
  refine run_factS (t := 0) 1 rfl rfl fun hl => ?_
  have l1 := hl; clear hl; simp only [List.length_map] at l1
  refine run_seq ?_
  refine run_region (q_box (l := 200) .n rfl (.t rfl) rfl rfl rfl rfl <|
      q_box (l := 201) .n rfl (.t rfl) rfl rfl rfl rfl <|
      q_assign .n (.c rfl) rfl <|
      Lex.nil) ?_
  refine run_seq ?_
  refine run_region (q_ldN_ow .n (.t rfl) rfl (.inr rfl) ag_33 (fun _ => rfl) rfl rfl <|
      q_fld_ow .n (.t rfl) fo_127_1 rfl <|
      q_ld1_ow .n (.t rfl) rfl (.inr rfl) (fun _ => rfl) rfl ic_2 rfl <|
      q_call0 (full := false) .n .f en_135 (.cons (.t rfl) (.cons (.t rfl) .nil)) (.cons (.sts rfl) (.cons (.b (.a (.same rfl))) .nil)) (fun hg => c_impl_Mine_hasJunction m_ a.From) rfl (fun h => Bool.noConfusion h) rfl <|
      q_move .n (.t rfl) rfl <|
      q_ldN_ow (.t rfl rfl) (.t rfl) rfl (.inr rfl) ag_33 (fun _ => rfl) rfl rfl <|
      q_fld_ow (.t rfl rfl) (.t rfl) fo_127_2 rfl <|
      q_ld1_ow (.t rfl rfl) (.u rfl id) rfl (.inr rfl) (fun _ => rfl) rfl ic_2 rfl <|
      q_call0 (full := false) (.t rfl rfl) .f en_135 (.cons (.u rfl id) (.cons (.u rfl id) .nil)) (.cons (.sts rfl) (.cons (.b (.a (.same rfl))) .nil)) (fun hg => c_impl_Mine_hasJunction m_ a.To) rfl (fun h => Bool.noConfusion h) rfl <|
      q_and .n (.t rfl) (.u rfl id) rfl <|
      q_assign .n (.t rfl) rfl <|
      Lex.nil) ?_
  exact run_ret [] (.cons (.t rfl rfl) .nil) rfl trivial rfl

/-! ### impl_ValidMine -/
theorem c_impl_ValidMine (m_ : gMine) : Con Try.prog 97 [.st [.int .i64 m_.Junctions, .sl 7 (m_.Airways.map gAirway.v)]] [] (.bool (m_impl_ValidMine m_)) ([]) := by
  refine con_intro (out := fun r : Bool => ((.bool r : V), ([] : List (Nat × Option O)))) (r := (m_impl_ValidMine m_)) Try.func97 rfl Try.ntmps97 rfl ?_
  refine run_factS (t := 0) 1 rfl rfl fun hl => ?_
  have l1 := hl; clear hl; simp only [List.length_map] at l1
  refine run_seq ?_
  refine run_region (q_box (l := 200) .n rfl (.t rfl) rfl rfl rfl rfl <|
      q_assign .n (.c rfl) rfl <|
      Lex.nil) ?_
  refine run_seq ?_
  refine run_seq ?_
  refine run_region (q_fld_ow .n (.t rfl) fo_33_0 rfl <|
      q_ld1_ow .n (.t rfl) rfl (.inr rfl) (fun _ => rfl) rfl ic_2 rfl <|
      q_call0 (full := false) .n .f en_85 (.cons (.t rfl) (.cons (.c rfl) (.cons (.c rfl) .nil))) (.cons (.b (.a (.same rfl))) (.cons (.b (.a (.same rfl))) (.cons (.b (.a (.same rfl))) .nil))) (fun hg => c_impl_within m_.Junctions 1 16) rfl (fun h => Bool.noConfusion h) rfl <|
      q_not .n (.t rfl) rfl <|
      q_move .n (.t rfl) rfl <|
      q_fld_ow (.f rfl rfl) (.t rfl) fo_33_1 rfl <|
      q_ld1_ow (.f rfl rfl) (.u rfl id) rfl (.inr rfl) (fun _ => rfl) rfl ic_31 rfl <|
      q_len (.f rfl rfl) (.u rfl id) rfl len_map ss_31 rfl <|
      q_int (.f rfl rfl) (.u rfl id) (.c rfl) rfl rfl <|
      q_or .n (.t rfl) (.u rfl id) rfl <|
      Lex.nil) ?_
  refine run_cond (.t rfl) rfl (fun h2 => ?_) (fun h2 => ?_)
  · try simp only [Bool.and_eq_true, Bool.or_eq_true, Bool.not_eq_true', Bool.and_eq_false_iff, Bool.or_eq_false_iff, Bool.not_eq_false', decide_eq_true_eq, decide_eq_false_iff_not, beq_iff_eq, bne_iff_ne, beq_eq_false_iff_ne, bne_eq_false_iff_eq, Bool.true_and, ne_eq, Decidable.not_not, Int.not_lt, Int.not_le, Nat.not_lt, Nat.not_le, strB_nil, strB_nil', strB_nnil, strB_nnil'] at h2
    try have hf0h2 := within_imp h2
    try have hf1h2 := within_imp h2.1
    try have hf2h2 := within_imp h2.2
    try have hf3h2 := within_imp h2.1.1
    try have hf4h2 := within_imp h2.1.2
    try have hf5h2 := within_imp h2.2.1
    try have hf6h2 := within_imp h2.2.2
    refine run_seq ?_
    refine run_region (q_assign .n (.c rfl) rfl <|
        Lex.nil) ?_
    exact run_ret [] (.cons (.t rfl rfl) .nil) rfl trivial rfl
  · try simp only [Bool.and_eq_true, Bool.or_eq_true, Bool.not_eq_true', Bool.and_eq_false_iff, Bool.or_eq_false_iff, Bool.not_eq_false', decide_eq_true_eq, decide_eq_false_iff_not, beq_iff_eq, bne_iff_ne, beq_eq_false_iff_ne, bne_eq_false_iff_eq, Bool.true_and, ne_eq, Decidable.not_not, Int.not_lt, Int.not_le, Nat.not_lt, Nat.not_le, strB_nil, strB_nil', strB_nnil, strB_nnil'] at h2
    try have hf0h2 := within_imp h2
    try have hf1h2 := within_imp h2.1
    try have hf2h2 := within_imp h2.2
    try have hf3h2 := within_imp h2.1.1
    try have hf4h2 := within_imp h2.1.2
    try have hf5h2 := within_imp h2.2.1
    try have hf6h2 := within_imp h2.2.2
    refine run_skip ?_
    refine run_seq ?_
    refine run_seq ?_
    refine run_region (q_fld_ow .n (.t rfl) fo_33_1 rfl <|
        q_ld1_ow .n (.t rfl) rfl (.inr rfl) (fun _ => rfl) rfl ic_31 rfl <|
        q_len .n (.t rfl) rfl len_map ss_31 rfl <|
        q_move .n (.c rfl) rfl <|
        Lex.nil) ?_
    refine run_block ?_
    refine run_LOOP (m_impl_ValidMine_b1 m_) _ _ _ rfl (fun (x1 : Int) => 0 ≤ x1 ∧ x1 ≤ (m_.Airways.length : Int)) (fun x1 => 0 ≤ x1 ∧ x1 ≤ (m_.Airways.length : Int) ∧ (m_.Airways.length : Int) ≤ x1) (fun x1 => ((m_.Airways.length : Int) - x1 : Int).toNat) (fun x1 => ⟨[(1, some (true, .op 200 0 0 0)), (16, some (true, .sl 7 (m_.Airways.map gAirway.v))), (17, some (true, .int .i64 (m_.Airways.length : Int))), (18, some (true, .int .i64 x1))], [(200, some (.box 33 [.int .i64 m_.Junctions, .sl 7 (m_.Airways.map gAirway.v)]))]⟩) (fun x1 => ⟨[], []⟩) ⟨by omega, by omega⟩ (by omega) (sub_of [] ⟨rfl, rfl, rfl, rfl, trivial⟩ ⟨rfl, trivial⟩ rfl) ?_ ?_
    · intro x1 i7
      obtain ⟨e8, e9, e10⟩ := i7
      try dsimp only at *
      refine run_seq ?_
      refine run_region (q_assign .n (.c rfl) rfl <|
          Lex.nil) ?_
      exact run_ret [] (.cons (.t rfl rfl) .nil) rfl trivial rfl
    · intro rec1 k1 hk3 x1 i4
      obtain ⟨e11, e12⟩ := i4
      try dsimp only at *
      refine run_seq ?_
      refine run_region (q_int .n (.t rfl) (.t rfl) rfl rfl <|
          Lex.nil) ?_
      refine run_seq ?_
      refine run_cond (.t rfl) rfl (fun h5 => ?_) (fun h5 => ?_)
      · try simp only [Bool.and_eq_true, Bool.or_eq_true, Bool.not_eq_true', Bool.and_eq_false_iff, Bool.or_eq_false_iff, Bool.not_eq_false', decide_eq_true_eq, decide_eq_false_iff_not, beq_iff_eq, bne_iff_ne, beq_eq_false_iff_ne, bne_eq_false_iff_eq, Bool.true_and, ne_eq, Decidable.not_not, Int.not_lt, Int.not_le, Nat.not_lt, Nat.not_le, strB_nil, strB_nil', strB_nnil, strB_nnil'] at h5
        refine run_skip ?_
        refine run_seq ?_
        refine run_block ?_
        refine run_seq ?_
        refine run_region (q_move .n (.t rfl) rfl <|
            q_idx_rm .n (.t rfl) (.t rfl) sl_31 (fun _ => by omega) rfl <|
            q_ldN_ro .n (.t rfl) ag_127 rfl rfl rfl <|
            q_alloc (l := 201) .n rfl zv_127 rfl rfl <|
            q_assign .n (.t rfl) rfl <|
            q_st_boxm [.str (at' m_.Airways x1).Id, .int .i64 (at' m_.Airways x1).From, .int .i64 (at' m_.Airways x1).To, .int .i64 (at' m_.Airways x1).Length, .int .i64 (at' m_.Airways x1).Section, .int .i64 (at' m_.Airways x1).Friction, .int .i64 (at' m_.Airways x1).Shock] .n rfl (.t rfl) (.t rfl) rfl ts_127 rfl rfl <|
            Lex.nil) ?_
        refine run_seq ?_
        refine run_draw fmo (q_ldN_ow .n (.t rfl) rfl (.inr rfl) ag_127 (fun _ => rfl) rfl rfl <|
            q_call0 (full := false) .n .f en_121 (.cons (.t rfl) .nil) (.cons (.sts rfl) .nil) (fun hg => c_impl_ValidAirway (at' m_.Airways x1)) rfl (fun h => Bool.noConfusion h) rfl <|
            q_not .n (.t rfl) rfl <|
            q_move .n (.t rfl) rfl <|
            q_ldN_ow (.f rfl rfl) (.t rfl) rfl (.inr rfl) ag_33 (fun _ => rfl) rfl rfl <|
            q_ldN_ow (.f rfl rfl) (.t rfl) rfl (.inr rfl) ag_127 (fun _ => rfl) rfl rfl <|
            q_call0 (full := false) (.f rfl rfl) .f en_122 (.cons (.u rfl id) (.cons (.u rfl id) .nil)) (.cons (.sts rfl) (.cons (.sts rfl) .nil)) (fun hg => c_impl_Mine_hasEnds m_ (at' m_.Airways x1)) rfl (fun h => Bool.noConfusion h) rfl <|
            q_not (.f rfl rfl) (.u rfl id) rfl <|
            q_or .n (.t rfl) (.u rfl id) rfl <|
            q_move .n (.t rfl) rfl <|
            q_move (.f rfl rfl) (.t rfl) rfl <|
            q_int (.f rfl rfl) (.u rfl id) (.c rfl) rfl rfl <|
            q_move (.f rfl rfl) (.u rfl id) rfl <|
            q_fld_ow (.t rfl rfl) (.t rfl) fo_127_0 rfl <|
            q_ld1_ow (.t rfl rfl) (.u rfl id) rfl (.inr rfl) (fun _ => rfl) rfl ic_9 rfl <|
            q_fld_ow (.t rfl rfl) (.t rfl) fo_33_1 rfl <|
            q_ld1_ow (.t rfl rfl) (.u rfl id) rfl (.inr rfl) (fun _ => rfl) rfl ic_31 rfl <|
            q_move (.t rfl rfl) (.t rfl) rfl <|
            q_sub (.t rfl rfl) (.u rfl id) (.c rfl) (fun hg => by simp only [Bool.and_eq_true, Bool.or_eq_true, Bool.not_eq_true', Bool.and_eq_false_iff, Bool.or_eq_false_iff, Bool.not_eq_false', decide_eq_true_eq, decide_eq_false_iff_not, beq_iff_eq, bne_iff_ne, beq_eq_false_iff_ne, bne_eq_false_iff_eq, Bool.true_and, ne_eq, Decidable.not_not, Int.not_lt, Int.not_le, Nat.not_lt, Nat.not_le, strB_nil, strB_nil', strB_nnil, strB_nnil'] at hg; omega) rfl <|
            q_idx_rm (.t rfl rfl) (.u rfl id) (.u rfl id) sl_31 (fun hg => by simp only [Bool.and_eq_true, Bool.or_eq_true, Bool.not_eq_true', Bool.and_eq_false_iff, Bool.or_eq_false_iff, Bool.not_eq_false', decide_eq_true_eq, decide_eq_false_iff_not, beq_iff_eq, bne_iff_ne, beq_eq_false_iff_ne, bne_eq_false_iff_eq, Bool.true_and, ne_eq, Decidable.not_not, Int.not_lt, Int.not_le, Nat.not_lt, Nat.not_le, strB_nil, strB_nil', strB_nnil, strB_nnil'] at hg; omega) rfl <|
            q_fld_ro (.t rfl rfl) (.u rfl id) fo_127_0 rfl <|
            q_ld1_ro (.t rfl rfl) (.u rfl id) rfl ic_9 rfl <|
            q_strcmp (.t rfl rfl) (.u rfl id) (.u rfl id) rfl rfl <|
            q_and (.f rfl rfl) (.u rfl id) (.u rfl id) rfl <|
            q_or .n (.t rfl) (.u rfl id) rfl <|
            Lex.nil) (by kernel_rfl) ?_
        refine run_cond (.t rfl) rfl (fun h6 => ?_) (fun h6 => ?_)
        · try simp only [Bool.and_eq_true, Bool.or_eq_true, Bool.not_eq_true', Bool.and_eq_false_iff, Bool.or_eq_false_iff, Bool.not_eq_false', decide_eq_true_eq, decide_eq_false_iff_not, beq_iff_eq, bne_iff_ne, beq_eq_false_iff_ne, bne_eq_false_iff_eq, Bool.true_and, ne_eq, Decidable.not_not, Int.not_lt, Int.not_le, Nat.not_lt, Nat.not_le, strB_nil, strB_nil', strB_nnil, strB_nnil'] at h6
          refine run_seq ?_
          refine run_region (q_assign .n (.c rfl) rfl <|
              Lex.nil) ?_
          exact run_ret [] (.cons (.t rfl rfl) .nil) rfl trivial rfl
        · try simp only [Bool.and_eq_true, Bool.or_eq_true, Bool.not_eq_true', Bool.and_eq_false_iff, Bool.or_eq_false_iff, Bool.not_eq_false', decide_eq_true_eq, decide_eq_false_iff_not, beq_iff_eq, bne_iff_ne, beq_eq_false_iff_ne, bne_eq_false_iff_eq, Bool.true_and, ne_eq, Decidable.not_not, Int.not_lt, Int.not_le, Nat.not_lt, Nat.not_le, strB_nil, strB_nil', strB_nnil, strB_nnil'] at h6
          refine run_skip ?_
          refine run_endB ?_
          refine run_region (q_add .n (.t rfl) (.c rfl) (fun _ => by omega) rfl <|
              q_move .n (.t rfl) rfl <|
              Lex.nil) ?_
          exact run_again (x1 + 1) ⟨by omega, by omega⟩ (by omega) (sub_of [] ⟨rfl, rfl, rfl, rfl, trivial⟩ ⟨rfl, trivial⟩ rfl)
      · try simp only [Bool.and_eq_true, Bool.or_eq_true, Bool.not_eq_true', Bool.and_eq_false_iff, Bool.or_eq_false_iff, Bool.not_eq_false', decide_eq_true_eq, decide_eq_false_iff_not, beq_iff_eq, bne_iff_ne, beq_eq_false_iff_ne, bne_eq_false_iff_eq, Bool.true_and, ne_eq, Decidable.not_not, Int.not_lt, Int.not_le, Nat.not_lt, Nat.not_le, strB_nil, strB_nil', strB_nnil, strB_nnil'] at h5
        refine run_exit rfl ?_
        exact run_cont hk3 x1 ⟨by omega, by omega, by omega⟩ (sub_of [] trivial trivial rfl)

/-! ### impl_kindOk -/
theorem c_impl_kindOk (n_ : Int) : Con Try.prog 123 [.int .i64 n_] [] (.bool (m_impl_kindOk n_)) ([]) := by
  refine con_intro (out := fun r : Bool => ((.bool r : V), ([] : List (Nat × Option O)))) (r := (m_impl_kindOk n_)) Try.func123 rfl Try.ntmps123 rfl ?_
  refine run_seq ?_
  refine run_region (q_assign .n (.c rfl) rfl <|
      Lex.nil) ?_
  refine run_seq ?_
  refine run_region (q_move .n (.t rfl) rfl <|
      q_call0 (full := false) .n .f en_85 (.cons (.t rfl) (.cons (.c rfl) (.cons (.c rfl) .nil))) (.cons (.b (.a (.same rfl))) (.cons (.b (.a (.same rfl))) (.cons (.b (.a (.same rfl))) .nil))) (fun hg => c_impl_within n_ 1 4) rfl (fun h => Bool.noConfusion h) rfl <|
      q_assign .n (.t rfl) rfl <|
      Lex.nil) ?_
  exact run_ret [] (.cons (.t rfl rfl) .nil) rfl trivial rfl

/-! ### impl_Permit_valid -/
theorem c_impl_Permit_valid (x_ : gPermit) : Con Try.prog 98 [.st [.str x_.Id, .int .i64 x_.Kind, .int .i64 x_.Airway, .int .i64 x_.From, .int .i64 x_.Until]] [] (.bool (m_impl_Permit_valid x_)) ([]) := by
  refine con_intro (out := fun r : Bool => ((.bool r : V), ([] : List (Nat × Option O)))) (r := (m_impl_Permit_valid x_)) Try.func98 rfl Try.ntmps98 rfl ?_
  refine run_seq ?_
  refine run_region (q_box (l := 200) .n rfl (.t rfl) rfl rfl rfl rfl <|
      q_assign .n (.c rfl) rfl <|
      Lex.nil) ?_
  refine run_seq ?_
  refine run_region (q_fld_ow .n (.t rfl) fo_105_0 rfl <|
      q_ld1_ow .n (.t rfl) rfl (.inr rfl) (fun _ => rfl) rfl ic_9 rfl <|
      q_call0 (full := false) .n .f en_109 (.cons (.t rfl) .nil) (.cons (.b (.a (.same rfl))) .nil) (fun hg => c_impl_IsName x_.Id) rfl (fun h => Bool.noConfusion h) rfl <|
      q_move .n (.t rfl) rfl <|
      q_fld_ow (.t rfl rfl) (.t rfl) fo_105_1 rfl <|
      q_ld1_ow (.t rfl rfl) (.u rfl id) rfl (.inr rfl) (fun _ => rfl) rfl ic_2 rfl <|
      q_call0 (full := false) (.t rfl rfl) .f en_123 (.cons (.u rfl id) .nil) (.cons (.b (.a (.same rfl))) .nil) (fun hg => c_impl_kindOk x_.Kind) rfl (fun h => Bool.noConfusion h) rfl <|
      q_and .n (.t rfl) (.u rfl id) rfl <|
      q_move .n (.t rfl) rfl <|
      q_fld_ow (.t rfl rfl) (.t rfl) fo_105_2 rfl <|
      q_ld1_ow (.t rfl rfl) (.u rfl id) rfl (.inr rfl) (fun _ => rfl) rfl ic_2 rfl <|
      q_call0 (full := false) (.t rfl rfl) .f en_85 (.cons (.u rfl id) (.cons (.c rfl) (.cons (.c rfl) .nil))) (.cons (.b (.a (.same rfl))) (.cons (.b (.a (.same rfl))) (.cons (.b (.a (.same rfl))) .nil))) (fun hg => c_impl_within x_.Airway 0 23) rfl (fun h => Bool.noConfusion h) rfl <|
      q_and .n (.t rfl) (.u rfl id) rfl <|
      q_move .n (.t rfl) rfl <|
      q_fld_ow (.t rfl rfl) (.t rfl) fo_105_4 rfl <|
      q_ld1_ow (.t rfl rfl) (.u rfl id) rfl (.inr rfl) (fun _ => rfl) rfl ic_2 rfl <|
      q_call0 (full := false) (.t rfl rfl) .f en_85 (.cons (.u rfl id) (.cons (.c rfl) (.cons (.c rfl) .nil))) (.cons (.b (.a (.same rfl))) (.cons (.b (.a (.same rfl))) (.cons (.b (.a (.same rfl))) .nil))) (fun hg => c_impl_within x_.Until 0 100000) rfl (fun h => Bool.noConfusion h) rfl <|
      q_and .n (.t rfl) (.u rfl id) rfl <|
      q_move .n (.t rfl) rfl <|
      q_fld_ow (.t rfl rfl) (.t rfl) fo_105_3 rfl <|
      q_ld1_ow (.t rfl rfl) (.u rfl id) rfl (.inr rfl) (fun _ => rfl) rfl ic_2 rfl <|
      q_fld_ow (.t rfl rfl) (.t rfl) fo_105_4 rfl <|
      q_ld1_ow (.t rfl rfl) (.u rfl id) rfl (.inr rfl) (fun _ => rfl) rfl ic_2 rfl <|
      q_int (.t rfl rfl) (.u rfl id) (.c rfl) rfl rfl <|
      q_call0 (full := false) (.t rfl rfl) .f en_85 (.cons (.u rfl id) (.cons (.c rfl) (.cons (.u rfl id) .nil))) (.cons (.b (.a (.same rfl))) (.cons (.b (.a (.same rfl))) (.cons (.b (.a (.same rfl))) .nil))) (fun hg => c_impl_within x_.From 0 (IntKind.wrap .i64 (x_.Until - 1))) rfl (fun h => Bool.noConfusion h) rfl <|
      q_and .n (.t rfl) (.u rfl id) rfl <|
      q_assign .n (.t rfl) rfl <|
      Lex.nil) ?_
  exact run_ret [] (.cons (.t rfl rfl) .nil) rfl trivial rfl

/-! ### impl_indexValid_impl_Airway -/
theorem c_impl_indexValid_impl_Airway (list : List gAirway) (k_ : Int) : Con Try.prog 99 [.sl 7 (list.map gAirway.v), .int .i64 k_] [] (.bool (m_impl_indexValid_impl_Airway list k_)) ([]) := by
  refine con_intro (out := fun r : Bool => ((.bool r : V), ([] : List (Nat × Option O)))) (r := (m_impl_indexValid_impl_Airway list k_)) Try.func99 rfl Try.ntmps99 rfl ?_
  refine run_fact (t := 0) rfl fun hl => ?_
  have l1 := hl; clear hl; simp only [List.length_map] at l1
  refine run_seq ?_
  refine run_region (q_assign .n (.c rfl) rfl <|
      Lex.nil) ?_
  refine run_seq ?_
  refine run_region (q_move .n (.t rfl) rfl <|
      q_move .n (.t rfl) rfl <|
      q_len .n (.t rfl) rfl len_map ss_31 rfl <|
      q_sub .n (.t rfl) (.c rfl) (fun _ => by omega) rfl <|
      q_call0 (full := false) .n .f en_85 (.cons (.t rfl) (.cons (.c rfl) (.cons (.t rfl) .nil))) (.cons (.b (.a (.same rfl))) (.cons (.b (.a (.same rfl))) (.cons (.b (.a (.same rfl))) .nil))) (fun hg => c_impl_within k_ 0 ((list.length : Int) - 1)) rfl (fun h => Bool.noConfusion h) rfl <|
      q_assign .n (.t rfl) rfl <|
      Lex.nil) ?_
  exact run_ret [] (.cons (.t rfl rfl) .nil) rfl trivial rfl

/-! ### impl_ValidPermits -/
theorem c_impl_ValidPermits (m_ : gMine) (list : List gPermit) : Con Try.prog 65 [.st [.int .i64 m_.Junctions, .sl 7 (m_.Airways.map gAirway.v)], .sl 5 (list.map gPermit.v)] [] (.bool (m_impl_ValidPermits m_ list)) ([]) := by
  refine con_intro (out := fun r : Bool => ((.bool r : V), ([] : List (Nat × Option O)))) (r := (m_impl_ValidPermits m_ list)) Try.func65 rfl Try.ntmps65 rfl ?_
  refine run_factS (t := 0) 1 rfl rfl fun hl => ?_
  have l1 := hl; clear hl; simp only [List.length_map] at l1
  refine run_fact (t := 1) rfl fun hl => ?_
  have l2 := hl; clear hl; simp only [List.length_map] at l2
  refine run_seq ?_
  refine run_region (q_box (l := 200) .n rfl (.t rfl) rfl rfl rfl rfl <|
      q_assign .n (.c rfl) rfl <|
      Lex.nil) ?_
  refine run_seq ?_
  refine run_seq ?_
  refine run_region (q_ldN_ow .n (.t rfl) rfl (.inr rfl) ag_33 (fun _ => rfl) rfl rfl <|
      q_call0 (full := false) .n .f en_97 (.cons (.t rfl) .nil) (.cons (.sts rfl) .nil) (fun hg => c_impl_ValidMine m_) rfl (fun h => Bool.noConfusion h) rfl <|
      q_not .n (.t rfl) rfl <|
      q_move .n (.t rfl) rfl <|
      q_move (.f rfl rfl) (.t rfl) rfl <|
      q_len (.f rfl rfl) (.u rfl id) rfl len_map ss_50 rfl <|
      q_int (.f rfl rfl) (.u rfl id) (.c rfl) rfl rfl <|
      q_or .n (.t rfl) (.u rfl id) rfl <|
      Lex.nil) ?_
  refine run_cond (.t rfl) rfl (fun h3 => ?_) (fun h3 => ?_)
  · try simp only [Bool.and_eq_true, Bool.or_eq_true, Bool.not_eq_true', Bool.and_eq_false_iff, Bool.or_eq_false_iff, Bool.not_eq_false', decide_eq_true_eq, decide_eq_false_iff_not, beq_iff_eq, bne_iff_ne, beq_eq_false_iff_ne, bne_eq_false_iff_eq, Bool.true_and, ne_eq, Decidable.not_not, Int.not_lt, Int.not_le, Nat.not_lt, Nat.not_le, strB_nil, strB_nil', strB_nnil, strB_nnil'] at h3
    try have hf0h3 := ValidMine_imp h3
    try have hf1h3 := ValidMine_imp h3.1
    try have hf2h3 := ValidMine_imp h3.2
    try have hf3h3 := ValidMine_imp h3.1.1
    try have hf4h3 := ValidMine_imp h3.1.2
    try have hf5h3 := ValidMine_imp h3.2.1
    try have hf6h3 := ValidMine_imp h3.2.2
    refine run_seq ?_
    refine run_region (q_assign .n (.c rfl) rfl <|
        Lex.nil) ?_
    exact run_ret [] (.cons (.t rfl rfl) .nil) rfl trivial rfl
  · try simp only [Bool.and_eq_true, Bool.or_eq_true, Bool.not_eq_true', Bool.and_eq_false_iff, Bool.or_eq_false_iff, Bool.not_eq_false', decide_eq_true_eq, decide_eq_false_iff_not, beq_iff_eq, bne_iff_ne, beq_eq_false_iff_ne, bne_eq_false_iff_eq, Bool.true_and, ne_eq, Decidable.not_not, Int.not_lt, Int.not_le, Nat.not_lt, Nat.not_le, strB_nil, strB_nil', strB_nnil, strB_nnil'] at h3
    try have hf0h3 := ValidMine_imp h3
    try have hf1h3 := ValidMine_imp h3.1
    try have hf2h3 := ValidMine_imp h3.2
    try have hf3h3 := ValidMine_imp h3.1.1
    try have hf4h3 := ValidMine_imp h3.1.2
    try have hf5h3 := ValidMine_imp h3.2.1
    try have hf6h3 := ValidMine_imp h3.2.2
    refine run_skip ?_
    refine run_seq ?_
    refine run_seq ?_
    refine run_region (q_move .n (.t rfl) rfl <|
        q_len .n (.t rfl) rfl len_map ss_50 rfl <|
        q_move .n (.c rfl) rfl <|
        Lex.nil) ?_
    refine run_block ?_
    refine run_LOOP (m_impl_ValidPermits_b1 m_ list) _ _ _ rfl (fun (x1 : Int) => 0 ≤ x1 ∧ x1 ≤ (list.length : Int)) (fun x1 => 0 ≤ x1 ∧ x1 ≤ (list.length : Int) ∧ (list.length : Int) ≤ x1) (fun x1 => ((list.length : Int) - x1 : Int).toNat) (fun x1 => ⟨[(1, some (true, .sl 5 (list.map gPermit.v))), (2, some (true, .op 200 0 0 0)), (15, some (true, .sl 5 (list.map gPermit.v))), (16, some (true, .int .i64 (list.length : Int))), (17, some (true, .int .i64 x1))], [(200, some (.box 33 [.int .i64 m_.Junctions, .sl 7 (m_.Airways.map gAirway.v)]))]⟩) (fun x1 => ⟨[], []⟩) ⟨by omega, by omega⟩ (by omega) (sub_of [] ⟨rfl, rfl, rfl, rfl, rfl, trivial⟩ ⟨rfl, trivial⟩ rfl) ?_ ?_
    · intro x1 i8
      obtain ⟨e9, e10, e11⟩ := i8
      try dsimp only at *
      refine run_seq ?_
      refine run_region (q_assign .n (.c rfl) rfl <|
          Lex.nil) ?_
      exact run_ret [] (.cons (.t rfl rfl) .nil) rfl trivial rfl
    · intro rec1 k1 hk4 x1 i5
      obtain ⟨e12, e13⟩ := i5
      try dsimp only at *
      refine run_seq ?_
      refine run_region (q_int .n (.t rfl) (.t rfl) rfl rfl <|
          Lex.nil) ?_
      refine run_seq ?_
      refine run_cond (.t rfl) rfl (fun h6 => ?_) (fun h6 => ?_)
      · try simp only [Bool.and_eq_true, Bool.or_eq_true, Bool.not_eq_true', Bool.and_eq_false_iff, Bool.or_eq_false_iff, Bool.not_eq_false', decide_eq_true_eq, decide_eq_false_iff_not, beq_iff_eq, bne_iff_ne, beq_eq_false_iff_ne, bne_eq_false_iff_eq, Bool.true_and, ne_eq, Decidable.not_not, Int.not_lt, Int.not_le, Nat.not_lt, Nat.not_le, strB_nil, strB_nil', strB_nnil, strB_nnil'] at h6
        refine run_skip ?_
        refine run_seq ?_
        refine run_block ?_
        refine run_seq ?_
        refine run_region (q_move .n (.t rfl) rfl <|
            q_idx_rm .n (.t rfl) (.t rfl) sl_50 (fun _ => by omega) rfl <|
            q_ldN_ro .n (.t rfl) ag_105 rfl rfl rfl <|
            q_alloc (l := 201) .n rfl zv_105 rfl rfl <|
            q_assign .n (.t rfl) rfl <|
            q_st_boxm [.str (at' list x1).Id, .int .i64 (at' list x1).Kind, .int .i64 (at' list x1).Airway, .int .i64 (at' list x1).From, .int .i64 (at' list x1).Until] .n rfl (.t rfl) (.t rfl) rfl ts_105 rfl rfl <|
            Lex.nil) ?_
        refine run_seq ?_
        refine run_draw fmo (q_ldN_ow .n (.t rfl) rfl (.inr rfl) ag_105 (fun _ => rfl) rfl rfl <|
            q_call0 (full := false) .n .f en_98 (.cons (.t rfl) .nil) (.cons (.sts rfl) .nil) (fun hg => c_impl_Permit_valid (at' list x1)) rfl (fun h => Bool.noConfusion h) rfl <|
            q_not .n (.t rfl) rfl <|
            q_move .n (.t rfl) rfl <|
            q_fld_ow (.f rfl rfl) (.t rfl) fo_33_1 rfl <|
            q_ld1_ow (.f rfl rfl) (.u rfl id) rfl (.inr rfl) (fun _ => rfl) rfl ic_31 rfl <|
            q_fld_ow (.f rfl rfl) (.t rfl) fo_105_2 rfl <|
            q_ld1_ow (.f rfl rfl) (.u rfl id) rfl (.inr rfl) (fun _ => rfl) rfl ic_2 rfl <|
            q_call0 (full := false) (.f rfl rfl) .f en_99 (.cons (.u rfl id) (.cons (.u rfl id) .nil)) (.cons (.b (.a (.same rfl))) (.cons (.b (.a (.same rfl))) .nil)) (fun hg => c_impl_indexValid_impl_Airway m_.Airways (at' list x1).Airway) rfl (fun h => Bool.noConfusion h) rfl <|
            q_not (.f rfl rfl) (.u rfl id) rfl <|
            q_or .n (.t rfl) (.u rfl id) rfl <|
            q_move .n (.t rfl) rfl <|
            q_move (.f rfl rfl) (.t rfl) rfl <|
            q_int (.f rfl rfl) (.u rfl id) (.c rfl) rfl rfl <|
            q_move (.f rfl rfl) (.u rfl id) rfl <|
            q_fld_ow (.t rfl rfl) (.t rfl) fo_105_0 rfl <|
            q_ld1_ow (.t rfl rfl) (.u rfl id) rfl (.inr rfl) (fun _ => rfl) rfl ic_9 rfl <|
            q_move (.t rfl rfl) (.t rfl) rfl <|
            q_move (.t rfl rfl) (.t rfl) rfl <|
            q_sub (.t rfl rfl) (.u rfl id) (.c rfl) (fun hg => by simp only [Bool.and_eq_true, Bool.or_eq_true, Bool.not_eq_true', Bool.and_eq_false_iff, Bool.or_eq_false_iff, Bool.not_eq_false', decide_eq_true_eq, decide_eq_false_iff_not, beq_iff_eq, bne_iff_ne, beq_eq_false_iff_ne, bne_eq_false_iff_eq, Bool.true_and, ne_eq, Decidable.not_not, Int.not_lt, Int.not_le, Nat.not_lt, Nat.not_le, strB_nil, strB_nil', strB_nnil, strB_nnil'] at hg; omega) rfl <|
            q_idx_rm (.t rfl rfl) (.u rfl id) (.u rfl id) sl_50 (fun hg => by simp only [Bool.and_eq_true, Bool.or_eq_true, Bool.not_eq_true', Bool.and_eq_false_iff, Bool.or_eq_false_iff, Bool.not_eq_false', decide_eq_true_eq, decide_eq_false_iff_not, beq_iff_eq, bne_iff_ne, beq_eq_false_iff_ne, bne_eq_false_iff_eq, Bool.true_and, ne_eq, Decidable.not_not, Int.not_lt, Int.not_le, Nat.not_lt, Nat.not_le, strB_nil, strB_nil', strB_nnil, strB_nnil'] at hg; omega) rfl <|
            q_fld_ro (.t rfl rfl) (.u rfl id) fo_105_0 rfl <|
            q_ld1_ro (.t rfl rfl) (.u rfl id) rfl ic_9 rfl <|
            q_strcmp (.t rfl rfl) (.u rfl id) (.u rfl id) rfl rfl <|
            q_and (.f rfl rfl) (.u rfl id) (.u rfl id) rfl <|
            q_or .n (.t rfl) (.u rfl id) rfl <|
            Lex.nil) (by kernel_rfl) ?_
        refine run_cond (.t rfl) rfl (fun h7 => ?_) (fun h7 => ?_)
        · try simp only [Bool.and_eq_true, Bool.or_eq_true, Bool.not_eq_true', Bool.and_eq_false_iff, Bool.or_eq_false_iff, Bool.not_eq_false', decide_eq_true_eq, decide_eq_false_iff_not, beq_iff_eq, bne_iff_ne, beq_eq_false_iff_ne, bne_eq_false_iff_eq, Bool.true_and, ne_eq, Decidable.not_not, Int.not_lt, Int.not_le, Nat.not_lt, Nat.not_le, strB_nil, strB_nil', strB_nnil, strB_nnil'] at h7
          try have hf0h7 := permit_imp h7
          try have hf1h7 := permit_imp h7.1
          try have hf2h7 := permit_imp h7.2
          try have hf3h7 := permit_imp h7.1.1
          try have hf4h7 := permit_imp h7.1.2
          try have hf5h7 := permit_imp h7.2.1
          try have hf6h7 := permit_imp h7.2.2
          try have hf7h7 := permit_imp h7.1.1.1
          try have hf8h7 := permit_imp h7.1.1.2
          try have hf9h7 := indexValid_imp h7
          try have hf10h7 := indexValid_imp h7.1
          try have hf11h7 := indexValid_imp h7.2
          try have hf12h7 := indexValid_imp h7.1.1
          try have hf13h7 := indexValid_imp h7.1.2
          try have hf14h7 := indexValid_imp h7.2.1
          try have hf15h7 := indexValid_imp h7.2.2
          try have hf16h7 := indexValid_imp h7.1.1.1
          try have hf17h7 := indexValid_imp h7.1.1.2
          refine run_seq ?_
          refine run_region (q_assign .n (.c rfl) rfl <|
              Lex.nil) ?_
          exact run_ret [] (.cons (.t rfl rfl) .nil) rfl trivial rfl
        · try simp only [Bool.and_eq_true, Bool.or_eq_true, Bool.not_eq_true', Bool.and_eq_false_iff, Bool.or_eq_false_iff, Bool.not_eq_false', decide_eq_true_eq, decide_eq_false_iff_not, beq_iff_eq, bne_iff_ne, beq_eq_false_iff_ne, bne_eq_false_iff_eq, Bool.true_and, ne_eq, Decidable.not_not, Int.not_lt, Int.not_le, Nat.not_lt, Nat.not_le, strB_nil, strB_nil', strB_nnil, strB_nnil'] at h7
          try have hf0h7 := permit_imp h7
          try have hf1h7 := permit_imp h7.1
          try have hf2h7 := permit_imp h7.2
          try have hf3h7 := permit_imp h7.1.1
          try have hf4h7 := permit_imp h7.1.2
          try have hf5h7 := permit_imp h7.2.1
          try have hf6h7 := permit_imp h7.2.2
          try have hf7h7 := permit_imp h7.1.1.1
          try have hf8h7 := permit_imp h7.1.1.2
          try have hf9h7 := indexValid_imp h7
          try have hf10h7 := indexValid_imp h7.1
          try have hf11h7 := indexValid_imp h7.2
          try have hf12h7 := indexValid_imp h7.1.1
          try have hf13h7 := indexValid_imp h7.1.2
          try have hf14h7 := indexValid_imp h7.2.1
          try have hf15h7 := indexValid_imp h7.2.2
          try have hf16h7 := indexValid_imp h7.1.1.1
          try have hf17h7 := indexValid_imp h7.1.1.2
          refine run_skip ?_
          refine run_endB ?_
          refine run_region (q_add .n (.t rfl) (.c rfl) (fun _ => by omega) rfl <|
              q_move .n (.t rfl) rfl <|
              Lex.nil) ?_
          exact run_again (x1 + 1) ⟨by omega, by omega⟩ (by omega) (sub_of [] ⟨rfl, rfl, rfl, rfl, rfl, trivial⟩ ⟨rfl, trivial⟩ rfl)
      · try simp only [Bool.and_eq_true, Bool.or_eq_true, Bool.not_eq_true', Bool.and_eq_false_iff, Bool.or_eq_false_iff, Bool.not_eq_false', decide_eq_true_eq, decide_eq_false_iff_not, beq_iff_eq, bne_iff_ne, beq_eq_false_iff_ne, bne_eq_false_iff_eq, Bool.true_and, ne_eq, Decidable.not_not, Int.not_lt, Int.not_le, Nat.not_lt, Nat.not_le, strB_nil, strB_nil', strB_nnil, strB_nnil'] at h6
        refine run_exit rfl ?_
        exact run_cont hk4 x1 ⟨by omega, by omega, by omega⟩ (sub_of [] trivial trivial rfl)

/-! ### slices_Clone_int64 -/
theorem c_slices_Clone_int64 (s_ : List Int) (hp1 : s_.length ≤ 1048576) : Con Try.prog 86 [.sl 1 (s_.map (V.int .i64))] [] (.os 100 (m_slices_Clone_int64 s_).length) ([(100, some (.row 2 1 ((m_slices_Clone_int64 s_).map (V.int .i64))))]) := by
  refine con_intro (out := fun r : (List Int) => ((.os 100 r.length : V), ([(100, some (.row 2 1 (r.map (V.int .i64))))] : List (Nat × Option O)))) (r := (m_slices_Clone_int64 s_)) Try.func86 rfl Try.ntmps86 rfl ?_
  refine run_fact (t := 0) rfl fun hl => ?_
  have l1 := hl; clear hl; simp only [List.length_map] at l1
  refine run_seq ?_
  refine run_region (q_assign .n (.c rfl) rfl <|
      Lex.nil) ?_
  refine run_seq ?_
  refine run_seq ?_
  refine run_region (q_move .n (.t rfl) rfl <|
      q_eqnil .n (.t rfl) (.c rfl) us_25 rfl <|
      Lex.nil) ?_
  refine run_cond_ub (.t rfl) (fun h2 => ?_) ?_
  · have h2 := ub_nil h2
    refine run_r (r' := (([] : List Int))) (by show (([] : List Int) ++ s_) = (([] : List Int)); simp [h2]) ?_
    refine run_seq ?_
    refine run_region (q_assign .n (.c rfl) rfl <|
        Lex.nil) ?_
    refine run_sub (sub_adopt (t := 2) (l := 200) (el := 2) (sz := 1) rfl rfl) ?_
    exact run_ret [(100, 200)] (.cons (.t rfl rfl) .nil) (by first | rfl | (simp only [put_len]; rfl)) ⟨rfl, trivial⟩ rfl
  · skip
    refine run_skip ?_
    refine run_seq ?_
    refine run_region (q_bslicem ([] : List Int) (f := V.int .i64) (l := 201) .n rfl rfl .nil rfl si_25 zv_2 rfl rfl rfl <|
        q_move .n (.t rfl) rfl <|
        q_appm (xs := ([] : List Int)) (ys := s_) (f := V.int .i64) (l := 202) .n rfl (.ow (.t rfl) rfl (take_all (by simp only [len_map, put_len] <;> rfl)) (by simp only [len_map, put_len] <;> rfl)) (.ro (.t rfl)) si_25 zv_2 rfl (by (simp only [List.length_append, List.length_cons, List.length_nil, List.length_replicate, put_len] at * <;> omega)) rfl rfl <|
        q_assign .n (.t rfl) rfl <|
        Lex.nil) ?_
    exact run_ret [(100, 202)] (.cons (.t rfl rfl) .nil) (by first | rfl | (simp only [put_len]; rfl)) ⟨rfl, trivial⟩ rfl

/-! ### slices_IndexFunc_int64 -/
theorem c_slices_IndexFunc_int64 (s_ : List Int) (f : Int → Bool) (F_f : FuncId) (C_f : List V) (he_f : entB Try.prog F_f = true) (hr_f : C_f.all V.ro = true) (Q_f : Int → Prop) (hc_f : ∀ (a0 : Int), Q_f a0 → Con Try.prog F_f ([.int .i64 a0] ++ C_f) [] (.bool (f a0)) []) (hp1 : ∀ x ∈ s_, Q_f x) : Con Try.prog 124 [.sl 1 (s_.map (V.int .i64)), .clo F_f C_f] [] (.int .i64 (m_slices_IndexFunc_int64 s_ f)) ([]) := by
  refine con_intro (out := fun r : Int => ((.int .i64 r : V), ([] : List (Nat × Option O)))) (r := (m_slices_IndexFunc_int64 s_ f)) Try.func124 rfl Try.ntmps124 rfl ?_
  refine run_fact (t := 0) rfl fun hl => ?_
  have l1 := hl; clear hl; simp only [List.length_map] at l1
  refine run_seq ?_
  refine run_region (q_assign .n (.c rfl) rfl <|
      Lex.nil) ?_
  refine run_seq ?_
  refine run_seq ?_
  refine run_region (q_move .n (.t rfl) rfl <|
      q_len .n (.t rfl) rfl len_map ss_25 rfl <|
      q_move .n (.c rfl) rfl <|
      Lex.nil) ?_
  refine run_block ?_
  refine run_LOOP (m_slices_IndexFunc_int64_b1 s_ f) _ _ _ rfl (fun (x1 : Int) => 0 ≤ x1 ∧ x1 ≤ (s_.length : Int)) (fun x1 => 0 ≤ x1 ∧ x1 ≤ (s_.length : Int) ∧ (s_.length : Int) ≤ x1) (fun x1 => ((s_.length : Int) - x1 : Int).toNat) (fun x1 => ⟨[(0, some (true, .sl 1 (s_.map (V.int .i64)))), (1, some (true, .clo F_f C_f)), (7, some (true, .int .i64 (s_.length : Int))), (8, some (true, .int .i64 x1))], []⟩) (fun x1 => ⟨[], []⟩) ⟨by omega, by omega⟩ (by omega) (sub_of [] ⟨rfl, clo_ren hr_f rfl, rfl, rfl, trivial⟩ trivial rfl) ?_ ?_
  · intro x1 i6
    obtain ⟨e7, e8, e9⟩ := i6
    try dsimp only at *
    refine run_seq ?_
    refine run_region (q_assign .n (.c rfl) rfl <|
        Lex.nil) ?_
    exact run_ret [] (.cons (.t rfl rfl) .nil) rfl trivial rfl
  · intro rec1 k1 hk2 x1 i3
    obtain ⟨e10, e11⟩ := i3
    try dsimp only at *
    refine run_seq ?_
    refine run_region (q_int .n (.t rfl) (.t rfl) rfl rfl <|
        Lex.nil) ?_
    refine run_seq ?_
    refine run_cond (.t rfl) rfl (fun h4 => ?_) (fun h4 => ?_)
    · try simp only [Bool.and_eq_true, Bool.or_eq_true, Bool.not_eq_true', Bool.and_eq_false_iff, Bool.or_eq_false_iff, Bool.not_eq_false', decide_eq_true_eq, decide_eq_false_iff_not, beq_iff_eq, bne_iff_ne, beq_eq_false_iff_ne, bne_eq_false_iff_eq, Bool.true_and, ne_eq, Decidable.not_not, Int.not_lt, Int.not_le, Nat.not_lt, Nat.not_le, strB_nil, strB_nil', strB_nnil, strB_nnil'] at h4
      refine run_skip ?_
      refine run_seq ?_
      refine run_block ?_
      refine run_seq ?_
      refine run_region (q_move .n (.t rfl) rfl <|
          q_assign .n (.t rfl) rfl <|
          Lex.nil) ?_
      refine run_seq ?_
      refine run_region (q_move .n (.t rfl) rfl <|
          q_move .n (.t rfl) rfl <|
          q_move .n (.t rfl) rfl <|
          q_idx_rm .n (.t rfl) (.t rfl) sl_25 (fun _ => by omega) rfl <|
          q_ld1_ro .n (.t rfl) rfl ic_2 rfl <|
          q_call0 (full := false) .n (.c (.t rfl)) he_f (.cons (.t rfl) .nil) (passes_app hr_f (.cons (.b (.a (.same rfl))) .nil)) (fun hg => hc_f (at' s_ x1) (by exact at_all hp1 (by omega))) rfl (fun h => Bool.noConfusion h) rfl <|
          Lex.nil) ?_
      refine run_cond (.t rfl) rfl (fun h5 => ?_) (fun h5 => ?_)
      · try simp only [Bool.and_eq_true, Bool.or_eq_true, Bool.not_eq_true', Bool.and_eq_false_iff, Bool.or_eq_false_iff, Bool.not_eq_false', decide_eq_true_eq, decide_eq_false_iff_not, beq_iff_eq, bne_iff_ne, beq_eq_false_iff_ne, bne_eq_false_iff_eq, Bool.true_and, ne_eq, Decidable.not_not, Int.not_lt, Int.not_le, Nat.not_lt, Nat.not_le, strB_nil, strB_nil', strB_nnil, strB_nnil'] at h5
        refine run_seq ?_
        refine run_region (q_move .n (.t rfl) rfl <|
            q_assign .n (.t rfl) rfl <|
            Lex.nil) ?_
        exact run_ret [] (.cons (.t rfl rfl) .nil) rfl trivial rfl
      · try simp only [Bool.and_eq_true, Bool.or_eq_true, Bool.not_eq_true', Bool.and_eq_false_iff, Bool.or_eq_false_iff, Bool.not_eq_false', decide_eq_true_eq, decide_eq_false_iff_not, beq_iff_eq, bne_iff_ne, beq_eq_false_iff_ne, bne_eq_false_iff_eq, Bool.true_and, ne_eq, Decidable.not_not, Int.not_lt, Int.not_le, Nat.not_lt, Nat.not_le, strB_nil, strB_nil', strB_nnil, strB_nnil'] at h5
        refine run_skip ?_
        refine run_endB ?_
        refine run_region (q_add .n (.t rfl) (.c rfl) (fun _ => by omega) rfl <|
            q_move .n (.t rfl) rfl <|
            Lex.nil) ?_
        exact run_again (x1 + 1) ⟨by omega, by omega⟩ (by omega) (sub_of [] ⟨rfl, clo_ren hr_f rfl, rfl, rfl, trivial⟩ trivial rfl)
    · try simp only [Bool.and_eq_true, Bool.or_eq_true, Bool.not_eq_true', Bool.and_eq_false_iff, Bool.or_eq_false_iff, Bool.not_eq_false', decide_eq_true_eq, decide_eq_false_iff_not, beq_iff_eq, bne_iff_ne, beq_eq_false_iff_ne, bne_eq_false_iff_eq, Bool.true_and, ne_eq, Decidable.not_not, Int.not_lt, Int.not_le, Nat.not_lt, Nat.not_le, strB_nil, strB_nil', strB_nnil, strB_nnil'] at h4
      refine run_exit rfl ?_
      exact run_cont hk2 x1 ⟨by omega, by omega, by omega⟩ (sub_of [] trivial trivial rfl)

/-! ### slices_ContainsFunc_int64 -/
theorem c_slices_ContainsFunc_int64 (s_ : List Int) (f : Int → Bool) (F_f : FuncId) (C_f : List V) (he_f : entB Try.prog F_f = true) (hr_f : C_f.all V.ro = true) (Q_f : Int → Prop) (hc_f : ∀ (a0 : Int), Q_f a0 → Con Try.prog F_f ([.int .i64 a0] ++ C_f) [] (.bool (f a0)) []) (hp1 : ∀ x ∈ s_, Q_f x) : Con Try.prog 100 [.sl 1 (s_.map (V.int .i64)), .clo F_f C_f] [] (.bool (m_slices_ContainsFunc_int64 s_ f)) ([]) := by
  refine con_intro (out := fun r : Bool => ((.bool r : V), ([] : List (Nat × Option O)))) (r := (m_slices_ContainsFunc_int64 s_ f)) Try.func100 rfl Try.ntmps100 rfl ?_
  refine run_fact (t := 0) rfl fun hl => ?_
  have l1 := hl; clear hl; simp only [List.length_map] at l1
  refine run_seq ?_
  refine run_region (q_assign .n (.c rfl) rfl <|
      Lex.nil) ?_
  refine run_seq ?_
  refine run_region (q_move .n (.t rfl) rfl <|
      q_move .n (.t rfl) rfl <|
      q_call0 (full := false) .n .f en_124 (.cons (.t rfl) (.cons (.t rfl) .nil)) (.cons (.b (.a (.same rfl))) (.cons (.clo (passBs_ro hr_f)) .nil)) (fun hg => c_slices_IndexFunc_int64 s_ f F_f C_f he_f hr_f Q_f hc_f (by omega)) rfl (fun h => Bool.noConfusion h) rfl <|
      q_int .n (.t rfl) (.c rfl) rfl rfl <|
      q_assign .n (.t rfl) rfl <|
      Lex.nil) ?_
  exact run_ret [] (.cons (.t rfl rfl) .nil) rfl trivial rfl

/-! ### impl_Airway_other -/
theorem c_impl_Airway_other (a : gAirway) (junction : Int) : Con Try.prog 125 [.st [.str a.Id, .int .i64 a.From, .int .i64 a.To, .int .i64 a.Length, .int .i64 a.Section, .int .i64 a.Friction, .int .i64 a.Shock], .int .i64 junction] [] (.tup [.int .i64 (m_impl_Airway_other a junction).1, .bool (m_impl_Airway_other a junction).2]) ([]) := by
  refine con_intro (out := fun r : Int × Bool => ((.tup [.int .i64 r.1, .bool r.2] : V), ([] : List (Nat × Option O)))) (r := (m_impl_Airway_other a junction)) Try.func125 rfl Try.ntmps125 rfl ?_
  refine run_seq ?_
  refine run_region (q_box (l := 200) .n rfl (.t rfl) rfl rfl rfl rfl <|
      q_assign .n (.c rfl) rfl <|
      q_assign .n (.c rfl) rfl <|
      Lex.nil) ?_
  refine run_seq ?_
  refine run_seq ?_
  refine run_region (q_move .n (.t rfl) rfl <|
      Lex.nil) ?_
  refine run_block ?_
  refine run_seq ?_
  refine run_region (q_fld_ow .n (.t rfl) fo_127_1 rfl <|
      q_ld1_ow .n (.t rfl) rfl (.inr rfl) (fun _ => rfl) rfl ic_2 rfl <|
      q_int .n (.t rfl) (.t rfl) rfl rfl <|
      q_assign .n (.t rfl) rfl <|
      Lex.nil) ?_
  refine run_cond (.t rfl) rfl (fun h1 => ?_) (fun h1 => ?_)
  · try simp only [Bool.and_eq_true, Bool.or_eq_true, Bool.not_eq_true', Bool.and_eq_false_iff, Bool.or_eq_false_iff, Bool.not_eq_false', decide_eq_true_eq, decide_eq_false_iff_not, beq_iff_eq, bne_iff_ne, beq_eq_false_iff_ne, bne_eq_false_iff_eq, Bool.true_and, ne_eq, Decidable.not_not, Int.not_lt, Int.not_le, Nat.not_lt, Nat.not_le, strB_nil, strB_nil', strB_nnil, strB_nnil'] at h1
    refine run_seq ?_
    refine run_region (q_fld_ow .n (.t rfl) fo_127_2 rfl <|
        q_ld1_ow .n (.t rfl) rfl (.inr rfl) (fun _ => rfl) rfl ic_2 rfl <|
        q_assign .n (.t rfl) rfl <|
        q_assign .n (.c rfl) rfl <|
        Lex.nil) ?_
    exact run_ret [] (.cons (.t rfl rfl) (.cons (.t rfl rfl) .nil)) rfl trivial rfl
  · try simp only [Bool.and_eq_true, Bool.or_eq_true, Bool.not_eq_true', Bool.and_eq_false_iff, Bool.or_eq_false_iff, Bool.not_eq_false', decide_eq_true_eq, decide_eq_false_iff_not, beq_iff_eq, bne_iff_ne, beq_eq_false_iff_ne, bne_eq_false_iff_eq, Bool.true_and, ne_eq, Decidable.not_not, Int.not_lt, Int.not_le, Nat.not_lt, Nat.not_le, strB_nil, strB_nil', strB_nnil, strB_nnil'] at h1
    refine run_seq ?_
    refine run_region (q_fld_ow .n (.t rfl) fo_127_2 rfl <|
        q_ld1_ow .n (.t rfl) rfl (.inr rfl) (fun _ => rfl) rfl ic_2 rfl <|
        q_int .n (.t rfl) (.t rfl) rfl rfl <|
        q_assign .n (.t rfl) rfl <|
        Lex.nil) ?_
    refine run_cond (.t rfl) rfl (fun h2 => ?_) (fun h2 => ?_)
    · try simp only [Bool.and_eq_true, Bool.or_eq_true, Bool.not_eq_true', Bool.and_eq_false_iff, Bool.or_eq_false_iff, Bool.not_eq_false', decide_eq_true_eq, decide_eq_false_iff_not, beq_iff_eq, bne_iff_ne, beq_eq_false_iff_ne, bne_eq_false_iff_eq, Bool.true_and, ne_eq, Decidable.not_not, Int.not_lt, Int.not_le, Nat.not_lt, Nat.not_le, strB_nil, strB_nil', strB_nnil, strB_nnil'] at h2
      refine run_seq ?_
      refine run_region (q_fld_ow .n (.t rfl) fo_127_1 rfl <|
          q_ld1_ow .n (.t rfl) rfl (.inr rfl) (fun _ => rfl) rfl ic_2 rfl <|
          q_assign .n (.t rfl) rfl <|
          q_assign .n (.c rfl) rfl <|
          Lex.nil) ?_
      exact run_ret [] (.cons (.t rfl rfl) (.cons (.t rfl rfl) .nil)) rfl trivial rfl
    · try simp only [Bool.and_eq_true, Bool.or_eq_true, Bool.not_eq_true', Bool.and_eq_false_iff, Bool.or_eq_false_iff, Bool.not_eq_false', decide_eq_true_eq, decide_eq_false_iff_not, beq_iff_eq, bne_iff_ne, beq_eq_false_iff_ne, bne_eq_false_iff_eq, Bool.true_and, ne_eq, Decidable.not_not, Int.not_lt, Int.not_le, Nat.not_lt, Nat.not_le, strB_nil, strB_nil', strB_nnil, strB_nnil'] at h2
      refine run_skip ?_
      refine run_endB ?_
      refine run_seq ?_
      refine run_region (q_assign .n (.c rfl) rfl <|
          q_assign .n (.c rfl) rfl <|
          Lex.nil) ?_
      exact run_ret [] (.cons (.t rfl rfl) (.cons (.t rfl rfl) .nil)) rfl trivial rfl

/-! ### impl_KindsClash -/
theorem c_impl_KindsClash (a : Int) (b : Int) (same : Bool) : Con Try.prog 126 [.int .i64 a, .int .i64 b, .bool same] [] (.bool (m_impl_KindsClash a b same)) ([]) := by
  refine con_intro (out := fun r : Bool => ((.bool r : V), ([] : List (Nat × Option O)))) (r := (m_impl_KindsClash a b same)) Try.func126 rfl Try.ntmps126 rfl ?_
  refine run_seq ?_
  refine run_region (q_assign .n (.c rfl) rfl <|
      Lex.nil) ?_
  refine run_seq ?_
  refine run_seq ?_
  refine run_region (q_move .n (.t rfl) rfl <|
      q_call0 (full := false) .n .f en_123 (.cons (.t rfl) .nil) (.cons (.b (.a (.same rfl))) .nil) (fun hg => c_impl_kindOk a) rfl (fun h => Bool.noConfusion h) rfl <|
      q_not .n (.t rfl) rfl <|
      q_move .n (.t rfl) rfl <|
      q_move (.f rfl rfl) (.t rfl) rfl <|
      q_call0 (full := false) (.f rfl rfl) .f en_123 (.cons (.u rfl id) .nil) (.cons (.b (.a (.same rfl))) .nil) (fun hg => c_impl_kindOk b) rfl (fun h => Bool.noConfusion h) rfl <|
      q_not (.f rfl rfl) (.u rfl id) rfl <|
      q_or .n (.t rfl) (.u rfl id) rfl <|
      Lex.nil) ?_
  refine run_cond (.t rfl) rfl (fun h1 => ?_) (fun h1 => ?_)
  · try simp only [Bool.and_eq_true, Bool.or_eq_true, Bool.not_eq_true', Bool.and_eq_false_iff, Bool.or_eq_false_iff, Bool.not_eq_false', decide_eq_true_eq, decide_eq_false_iff_not, beq_iff_eq, bne_iff_ne, beq_eq_false_iff_ne, bne_eq_false_iff_eq, Bool.true_and, ne_eq, Decidable.not_not, Int.not_lt, Int.not_le, Nat.not_lt, Nat.not_le, strB_nil, strB_nil', strB_nnil, strB_nnil'] at h1
    try have hf0h1 := kindOk_imp h1
    try have hf1h1 := kindOk_imp h1.1
    try have hf2h1 := kindOk_imp h1.2
    try have hf3h1 := kindOk_imp h1.1.1
    try have hf4h1 := kindOk_imp h1.1.2
    try have hf5h1 := kindOk_imp h1.2.1
    try have hf6h1 := kindOk_imp h1.2.2
    refine run_seq ?_
    refine run_region (q_assign .n (.c rfl) rfl <|
        Lex.nil) ?_
    exact run_ret [] (.cons (.t rfl rfl) .nil) rfl trivial rfl
  · try simp only [Bool.and_eq_true, Bool.or_eq_true, Bool.not_eq_true', Bool.and_eq_false_iff, Bool.or_eq_false_iff, Bool.not_eq_false', decide_eq_true_eq, decide_eq_false_iff_not, beq_iff_eq, bne_iff_ne, beq_eq_false_iff_ne, bne_eq_false_iff_eq, Bool.true_and, ne_eq, Decidable.not_not, Int.not_lt, Int.not_le, Nat.not_lt, Nat.not_le, strB_nil, strB_nil', strB_nnil, strB_nnil'] at h1
    try have hf0h1 := kindOk_imp h1
    try have hf1h1 := kindOk_imp h1.1
    try have hf2h1 := kindOk_imp h1.2
    try have hf3h1 := kindOk_imp h1.1.1
    try have hf4h1 := kindOk_imp h1.1.2
    try have hf5h1 := kindOk_imp h1.2.1
    try have hf6h1 := kindOk_imp h1.2.2
    refine run_skip ?_
    refine run_seq ?_
    refine run_seq ?_
    refine run_region (q_move .n (.t rfl) rfl <|
        q_move .n (.t rfl) rfl <|
        q_min .n (.t rfl) (.t rfl) rfl <|
        q_move .n (.t rfl) rfl <|
        q_move .n (.t rfl) rfl <|
        q_max .n (.t rfl) (.t rfl) rfl <|
        q_assign .n (.t rfl) rfl <|
        q_assign .n (.t rfl) rfl <|
        Lex.nil) ?_
    refine run_block ?_
    refine run_seq ?_
    refine run_region (q_move .n (.t rfl) rfl <|
        q_int .n (.t rfl) (.c rfl) rfl rfl <|
        q_assign .n (.t rfl) rfl <|
        Lex.nil) ?_
    refine run_cond (.t rfl) rfl (fun h2 => ?_) (fun h2 => ?_)
    · try simp only [Bool.and_eq_true, Bool.or_eq_true, Bool.not_eq_true', Bool.and_eq_false_iff, Bool.or_eq_false_iff, Bool.not_eq_false', decide_eq_true_eq, decide_eq_false_iff_not, beq_iff_eq, bne_iff_ne, beq_eq_false_iff_ne, bne_eq_false_iff_eq, Bool.true_and, ne_eq, Decidable.not_not, Int.not_lt, Int.not_le, Nat.not_lt, Nat.not_le, strB_nil, strB_nil', strB_nnil, strB_nnil'] at h2
      refine run_seq ?_
      refine run_region (q_assign .n (.c rfl) rfl <|
          Lex.nil) ?_
      exact run_ret [] (.cons (.t rfl rfl) .nil) rfl trivial rfl
    · try simp only [Bool.and_eq_true, Bool.or_eq_true, Bool.not_eq_true', Bool.and_eq_false_iff, Bool.or_eq_false_iff, Bool.not_eq_false', decide_eq_true_eq, decide_eq_false_iff_not, beq_iff_eq, bne_iff_ne, beq_eq_false_iff_ne, bne_eq_false_iff_eq, Bool.true_and, ne_eq, Decidable.not_not, Int.not_lt, Int.not_le, Nat.not_lt, Nat.not_le, strB_nil, strB_nil', strB_nnil, strB_nnil'] at h2
      refine run_seq ?_
      refine run_region (q_move .n (.t rfl) rfl <|
          q_int .n (.t rfl) (.c rfl) rfl rfl <|
          q_assign .n (.t rfl) rfl <|
          Lex.nil) ?_
      refine run_cond (.t rfl) rfl (fun h3 => ?_) (fun h3 => ?_)
      · try simp only [Bool.and_eq_true, Bool.or_eq_true, Bool.not_eq_true', Bool.and_eq_false_iff, Bool.or_eq_false_iff, Bool.not_eq_false', decide_eq_true_eq, decide_eq_false_iff_not, beq_iff_eq, bne_iff_ne, beq_eq_false_iff_ne, bne_eq_false_iff_eq, Bool.true_and, ne_eq, Decidable.not_not, Int.not_lt, Int.not_le, Nat.not_lt, Nat.not_le, strB_nil, strB_nil', strB_nnil, strB_nnil'] at h3
        refine run_seq ?_
        refine run_region (q_move .n (.t rfl) rfl <|
            q_int .n (.t rfl) (.c rfl) rfl rfl <|
            q_move .n (.t rfl) rfl <|
            q_move (.f rfl rfl) (.t rfl) rfl <|
            q_or .n (.t rfl) (.u rfl id) rfl <|
            q_assign .n (.t rfl) rfl <|
            Lex.nil) ?_
        exact run_ret [] (.cons (.t rfl rfl) .nil) rfl trivial rfl
      · try simp only [Bool.and_eq_true, Bool.or_eq_true, Bool.not_eq_true', Bool.and_eq_false_iff, Bool.or_eq_false_iff, Bool.not_eq_false', decide_eq_true_eq, decide_eq_false_iff_not, beq_iff_eq, bne_iff_ne, beq_eq_false_iff_ne, bne_eq_false_iff_eq, Bool.true_and, ne_eq, Decidable.not_not, Int.not_lt, Int.not_le, Nat.not_lt, Nat.not_le, strB_nil, strB_nil', strB_nnil, strB_nnil'] at h3
        refine run_seq ?_
        refine run_region (q_move .n (.t rfl) rfl <|
            q_int .n (.t rfl) (.c rfl) rfl rfl <|
            q_assign .n (.t rfl) rfl <|
            Lex.nil) ?_
        refine run_cond (.t rfl) rfl (fun h4 => ?_) (fun h4 => ?_)
        · try simp only [Bool.and_eq_true, Bool.or_eq_true, Bool.not_eq_true', Bool.and_eq_false_iff, Bool.or_eq_false_iff, Bool.not_eq_false', decide_eq_true_eq, decide_eq_false_iff_not, beq_iff_eq, bne_iff_ne, beq_eq_false_iff_ne, bne_eq_false_iff_eq, Bool.true_and, ne_eq, Decidable.not_not, Int.not_lt, Int.not_le, Nat.not_lt, Nat.not_le, strB_nil, strB_nil', strB_nnil, strB_nnil'] at h4
          refine run_seq ?_
          refine run_region (q_move .n (.t rfl) rfl <|
              q_assign .n (.t rfl) rfl <|
              Lex.nil) ?_
          exact run_ret [] (.cons (.t rfl rfl) .nil) rfl trivial rfl
        · try simp only [Bool.and_eq_true, Bool.or_eq_true, Bool.not_eq_true', Bool.and_eq_false_iff, Bool.or_eq_false_iff, Bool.not_eq_false', decide_eq_true_eq, decide_eq_false_iff_not, beq_iff_eq, bne_iff_ne, beq_eq_false_iff_ne, bne_eq_false_iff_eq, Bool.true_and, ne_eq, Decidable.not_not, Int.not_lt, Int.not_le, Nat.not_lt, Nat.not_le, strB_nil, strB_nil', strB_nnil, strB_nnil'] at h4
          refine run_skip ?_
          refine run_endB ?_
          refine run_seq ?_
          refine run_region (q_assign .n (.c rfl) rfl <|
              Lex.nil) ?_
          exact run_ret [] (.cons (.t rfl rfl) .nil) rfl trivial rfl

/-! ### impl_Mine_clash -/
theorem c_impl_Mine_clash (m_ : gMine) (x_ : gPermit) (y : gPermit) (hp1 : 0 ≤ x_.Airway ∧ x_.Airway < m_.Airways.length) (hp2 : 0 ≤ y.Airway ∧ y.Airway < m_.Airways.length) : Con Try.prog 102 [.st [.int .i64 m_.Junctions, .sl 7 (m_.Airways.map gAirway.v)], .st [.str x_.Id, .int .i64 x_.Kind, .int .i64 x_.Airway, .int .i64 x_.From, .int .i64 x_.Until], .st [.str y.Id, .int .i64 y.Kind, .int .i64 y.Airway, .int .i64 y.From, .int .i64 y.Until]] [] (.bool (m_impl_Mine_clash m_ x_ y)) ([]) := by
  refine con_intro (out := fun r : Bool => ((.bool r : V), ([] : List (Nat × Option O)))) (r := (m_impl_Mine_clash m_ x_ y)) Try.func102 rfl Try.ntmps102 rfl ?_
  refine run_factS (t := 0) 1 rfl rfl fun hl => ?_
  have l1 := hl; clear hl; simp only [List.length_map] at l1
  refine run_seq ?_
  refine run_region (q_box (l := 200) .n rfl (.t rfl) rfl rfl rfl rfl <|
      q_box (l := 201) .n rfl (.t rfl) rfl rfl rfl rfl <|
      q_box (l := 202) .n rfl (.t rfl) rfl rfl rfl rfl <|
      q_assign .n (.c rfl) rfl <|
      Lex.nil) ?_
  refine run_seq ?_
  refine run_seq ?_
  refine run_region (q_fld_ow .n (.t rfl) fo_105_3 rfl <|
      q_ld1_ow .n (.t rfl) rfl (.inr rfl) (fun _ => rfl) rfl ic_2 rfl <|
      q_fld_ow .n (.t rfl) fo_105_4 rfl <|
      q_ld1_ow .n (.t rfl) rfl (.inr rfl) (fun _ => rfl) rfl ic_2 rfl <|
      q_int .n (.t rfl) (.t rfl) rfl rfl <|
      q_move .n (.t rfl) rfl <|
      q_fld_ow (.f rfl rfl) (.t rfl) fo_105_3 rfl <|
      q_ld1_ow (.f rfl rfl) (.u rfl id) rfl (.inr rfl) (fun _ => rfl) rfl ic_2 rfl <|
      q_fld_ow (.f rfl rfl) (.t rfl) fo_105_4 rfl <|
      q_ld1_ow (.f rfl rfl) (.u rfl id) rfl (.inr rfl) (fun _ => rfl) rfl ic_2 rfl <|
      q_int (.f rfl rfl) (.u rfl id) (.u rfl id) rfl rfl <|
      q_or .n (.t rfl) (.u rfl id) rfl <|
      Lex.nil) ?_
  refine run_cond (.t rfl) rfl (fun h2 => ?_) (fun h2 => ?_)
  · try simp only [Bool.and_eq_true, Bool.or_eq_true, Bool.not_eq_true', Bool.and_eq_false_iff, Bool.or_eq_false_iff, Bool.not_eq_false', decide_eq_true_eq, decide_eq_false_iff_not, beq_iff_eq, bne_iff_ne, beq_eq_false_iff_ne, bne_eq_false_iff_eq, Bool.true_and, ne_eq, Decidable.not_not, Int.not_lt, Int.not_le, Nat.not_lt, Nat.not_le, strB_nil, strB_nil', strB_nnil, strB_nnil'] at h2
    refine run_seq ?_
    refine run_region (q_assign .n (.c rfl) rfl <|
        Lex.nil) ?_
    exact run_ret [] (.cons (.t rfl rfl) .nil) rfl trivial rfl
  · try simp only [Bool.and_eq_true, Bool.or_eq_true, Bool.not_eq_true', Bool.and_eq_false_iff, Bool.or_eq_false_iff, Bool.not_eq_false', decide_eq_true_eq, decide_eq_false_iff_not, beq_iff_eq, bne_iff_ne, beq_eq_false_iff_ne, bne_eq_false_iff_eq, Bool.true_and, ne_eq, Decidable.not_not, Int.not_lt, Int.not_le, Nat.not_lt, Nat.not_le, strB_nil, strB_nil', strB_nnil, strB_nnil'] at h2
    refine run_skip ?_
    refine run_seq ?_
    refine run_region (q_fld_ow .n (.t rfl) fo_33_1 rfl <|
        q_ld1_ow .n (.t rfl) rfl (.inr rfl) (fun _ => rfl) rfl ic_31 rfl <|
        q_fld_ow .n (.t rfl) fo_105_2 rfl <|
        q_ld1_ow .n (.t rfl) rfl (.inr rfl) (fun _ => rfl) rfl ic_2 rfl <|
        q_idx_rm .n (.t rfl) (.t rfl) sl_31 (fun _ => by omega) rfl <|
        q_ldN_ro .n (.t rfl) ag_127 rfl rfl rfl <|
        q_alloc (l := 203) .n rfl zv_127 rfl rfl <|
        q_st_boxm [.str (at' m_.Airways x_.Airway).Id, .int .i64 (at' m_.Airways x_.Airway).From, .int .i64 (at' m_.Airways x_.Airway).To, .int .i64 (at' m_.Airways x_.Airway).Length, .int .i64 (at' m_.Airways x_.Airway).Section, .int .i64 (at' m_.Airways x_.Airway).Friction, .int .i64 (at' m_.Airways x_.Airway).Shock] .n rfl (.t rfl) (.t rfl) rfl ts_127 rfl rfl <|
        Lex.nil) ?_
    refine run_seq ?_
    refine run_draw fmo (q_fld_ow .n (.t rfl) fo_33_1 rfl <|
        q_ld1_ow .n (.t rfl) rfl (.inr rfl) (fun _ => rfl) rfl ic_31 rfl <|
        q_fld_ow .n (.t rfl) fo_105_2 rfl <|
        q_ld1_ow .n (.t rfl) rfl (.inr rfl) (fun _ => rfl) rfl ic_2 rfl <|
        q_idx_rm .n (.t rfl) (.t rfl) sl_31 (fun _ => by omega) rfl <|
        q_ldN_ro .n (.t rfl) ag_127 rfl rfl rfl <|
        q_fld_ow .n (.t rfl) fo_127_1 rfl <|
        q_ld1_ow .n (.t rfl) rfl (.inr rfl) (fun _ => rfl) rfl ic_2 rfl <|
        q_call0 (full := false) .n .f en_125 (.cons (.t rfl) (.cons (.t rfl) .nil)) (.cons (.sts rfl) (.cons (.b (.a (.same rfl))) .nil)) (fun hg => c_impl_Airway_other (at' m_.Airways y.Airway) (at' m_.Airways x_.Airway).From) rfl (fun h => Bool.noConfusion h) rfl <|
        q_move .n (.t rfl) rfl <|
        q_ext .n (.t rfl) rfl rfl rfl <|
        q_ext .n (.t rfl) rfl rfl rfl <|
        q_assign .n (.t rfl) rfl <|
        q_assign .n (.t rfl) rfl <|
        Lex.nil) (by kernel_rfl) ?_
    refine run_seq ?_
    refine run_draw fmo (q_fld_ow .n (.t rfl) fo_33_1 rfl <|
        q_ld1_ow .n (.t rfl) rfl (.inr rfl) (fun _ => rfl) rfl ic_31 rfl <|
        q_fld_ow .n (.t rfl) fo_105_2 rfl <|
        q_ld1_ow .n (.t rfl) rfl (.inr rfl) (fun _ => rfl) rfl ic_2 rfl <|
        q_idx_rm .n (.t rfl) (.t rfl) sl_31 (fun _ => by omega) rfl <|
        q_ldN_ro .n (.t rfl) ag_127 rfl rfl rfl <|
        q_fld_ow .n (.t rfl) fo_127_2 rfl <|
        q_ld1_ow .n (.t rfl) rfl (.inr rfl) (fun _ => rfl) rfl ic_2 rfl <|
        q_call0 (full := false) .n .f en_125 (.cons (.t rfl) (.cons (.t rfl) .nil)) (.cons (.sts rfl) (.cons (.b (.a (.same rfl))) .nil)) (fun hg => c_impl_Airway_other (at' m_.Airways y.Airway) (at' m_.Airways x_.Airway).To) rfl (fun h => Bool.noConfusion h) rfl <|
        q_move .n (.t rfl) rfl <|
        q_ext .n (.t rfl) rfl rfl rfl <|
        q_ext .n (.t rfl) rfl rfl rfl <|
        q_assign .n (.t rfl) rfl <|
        q_assign .n (.t rfl) rfl <|
        Lex.nil) (by kernel_rfl) ?_
    refine run_seq ?_
    refine run_region (q_move .n (.t rfl) rfl <|
        q_move .n (.t rfl) rfl <|
        q_move (.f rfl rfl) (.t rfl) rfl <|
        q_or .n (.t rfl) (.u rfl id) rfl <|
        q_move .n (.t rfl) rfl <|
        q_fld_ow (.t rfl rfl) (.t rfl) fo_105_1 rfl <|
        q_ld1_ow (.t rfl rfl) (.u rfl id) rfl (.inr rfl) (fun _ => rfl) rfl ic_2 rfl <|
        q_fld_ow (.t rfl rfl) (.t rfl) fo_105_1 rfl <|
        q_ld1_ow (.t rfl rfl) (.u rfl id) rfl (.inr rfl) (fun _ => rfl) rfl ic_2 rfl <|
        q_fld_ow (.t rfl rfl) (.t rfl) fo_105_2 rfl <|
        q_ld1_ow (.t rfl rfl) (.u rfl id) rfl (.inr rfl) (fun _ => rfl) rfl ic_2 rfl <|
        q_fld_ow (.t rfl rfl) (.t rfl) fo_105_2 rfl <|
        q_ld1_ow (.t rfl rfl) (.u rfl id) rfl (.inr rfl) (fun _ => rfl) rfl ic_2 rfl <|
        q_int (.t rfl rfl) (.u rfl id) (.u rfl id) rfl rfl <|
        q_call0 (full := false) (.t rfl rfl) .f en_126 (.cons (.u rfl id) (.cons (.u rfl id) (.cons (.u rfl id) .nil))) (.cons (.b (.a (.same rfl))) (.cons (.b (.a (.same rfl))) (.cons (.b (.a (.same rfl))) .nil))) (fun hg => c_impl_KindsClash x_.Kind y.Kind (x_.Airway == y.Airway)) rfl (fun h => Bool.noConfusion h) rfl <|
        q_and .n (.t rfl) (.u rfl id) rfl <|
        q_assign .n (.t rfl) rfl <|
        Lex.nil) ?_
    exact run_ret [] (.cons (.t rfl rfl) .nil) rfl trivial rfl

/-! ### impl_permitSearch_visit_1 -/
theorem c_impl_permitSearch_visit_1 (k_ : Int) (p1 : gpermitSearch) (p2 : Int) (hp1 : 0 ≤ k_ ∧ k_ < p1.list.length) (hp2 : 0 ≤ p2 ∧ p2 < p1.list.length) (hp3 : PmIn p1.mine.Airways.length p1.list) : Con Try.prog 101 [.int .i64 k_, .rp [.rp [.int .i64 p1.mine.Junctions, .sl 7 (p1.mine.Airways.map gAirway.v), .sl 5 (p1.list.map gPermit.v), .int .i64 p1.budget, .sl 1 (p1.some_.map (V.int .i64)), .sl 1 (p1.best.map (V.int .i64)), .int .i64 p1.most]], .rp [.int .i64 p2]] [] (.bool (m_impl_permitSearch_visit_1 k_ p1 p2)) ([]) := by
  refine con_intro (out := fun r : Bool => ((.bool r : V), ([] : List (Nat × Option O)))) (r := (m_impl_permitSearch_visit_1 k_ p1 p2)) Try.func101 rfl Try.ntmps101 rfl ?_
  refine run_seq ?_
  refine run_region (q_assign .n (.c rfl) rfl <|
      Lex.nil) ?_
  refine run_seq ?_
  refine run_draw fmo (q_ld1_ro .n (.t rfl) rfl ic_144 rfl <|
      q_nilc_ro .n (.t rfl) rfl <|
      q_fld_ro .n (.t rfl) fo_109_0 rfl <|
      q_ldN_ro .n (.t rfl) ag_33 rfl rfl rfl <|
      q_ld1_ro .n (.t rfl) rfl ic_144 rfl <|
      q_nilc_ro .n (.t rfl) rfl <|
      q_fld_ro .n (.t rfl) fo_109_1 rfl <|
      q_ld1_ro .n (.t rfl) rfl ic_50 rfl <|
      q_move .n (.t rfl) rfl <|
      q_idx_rm .n (.t rfl) (.t rfl) sl_50 (fun _ => by omega) rfl <|
      q_ldN_ro .n (.t rfl) ag_105 rfl rfl rfl <|
      q_ld1_ro .n (.t rfl) rfl ic_144 rfl <|
      q_nilc_ro .n (.t rfl) rfl <|
      q_fld_ro .n (.t rfl) fo_109_1 rfl <|
      q_ld1_ro .n (.t rfl) rfl ic_50 rfl <|
      q_ld1_ro .n (.t rfl) rfl ic_3 rfl <|
      q_idx_rm .n (.t rfl) (.t rfl) sl_50 (fun _ => by omega) rfl <|
      q_ldN_ro .n (.t rfl) ag_105 rfl rfl rfl <|
      q_call0 (full := false) .n .f en_102 (.cons (.t rfl) (.cons (.t rfl) (.cons (.t rfl) .nil))) (.cons (.sts rfl) (.cons (.sts rfl) (.cons (.sts rfl) .nil))) (fun hg => c_impl_Mine_clash p1.mine (at' p1.list k_) (at' p1.list p2) (by ((have hq := at_all hp3 hp1; omega))) (by ((have hq := at_all hp3 hp2; omega)))) rfl (fun h => Bool.noConfusion h) rfl <|
      q_assign .n (.t rfl) rfl <|
      Lex.nil) (by kernel_rfl) ?_
  exact run_ret [] (.cons (.t rfl rfl) .nil) rfl trivial rfl

/-! ### impl_permitSearch_visit -/
set_option maxRecDepth 100000 in
theorem c_impl_permitSearch_visit_n : ∀ (fuel : Nat) (s_ : gpermitSearch) (i : Int) (hp1 : PmIn s_.mine.Airways.length s_.list) (hp2 : s_.list.length ≤ 16) (hp3 : 0 ≤ i ∧ i ≤ s_.list.length) (hp4 : (s_.some_.length : Int) ≤ i) (hp5 : ∀ y ∈ s_.some_, 0 ≤ y ∧ y < s_.list.length) (hmu : ((s_.list.length : Int) - i).toNat < fuel), Con Try.prog 66 [.op 0 0 0 0, .int .i64 i] [(0, some (.box 109 [.int .i64 s_.mine.Junctions, .sl 7 (s_.mine.Airways.map gAirway.v), .sl 5 (s_.list.map gPermit.v), .int .i64 s_.budget, .os 14 s_.some_.length, .os 15 s_.best.length, .int .i64 s_.most])), (14, some (.row 2 1 (s_.some_.map (V.int .i64)))), (15, some (.row 2 1 (s_.best.map (V.int .i64))))] (.tup []) ([(100, some (.row 2 1 ((m_impl_permitSearch_visit_n fuel s_ i).some_.map (V.int .i64)))), (101, some (.row 2 1 ((m_impl_permitSearch_visit_n fuel s_ i).best.map (V.int .i64)))), (0, some (.box 109 [.int .i64 s_.mine.Junctions, .sl 7 (s_.mine.Airways.map gAirway.v), .sl 5 (s_.list.map gPermit.v), .int .i64 (m_impl_permitSearch_visit_n fuel s_ i).budget, .os 100 (m_impl_permitSearch_visit_n fuel s_ i).some_.length, .os 101 (m_impl_permitSearch_visit_n fuel s_ i).best.length, .int .i64 (m_impl_permitSearch_visit_n fuel s_ i).most]))]) := by
  intro fuel
  induction fuel with
  | zero => intro s_ i hp1 hp2 hp3 hp4 hp5 hmu; exact absurd hmu (Nat.not_lt_zero _)
  | succ fuel ih =>
  intro s_ i hp1 hp2 hp3 hp4 hp5 hmu
  simp only [m_impl_permitSearch_visit_n]
  have hself := post_impl_permitSearch_visit fuel
  generalize m_impl_permitSearch_visit_n fuel = self_ at ih hself ⊢
  refine con_intro (out := fun r : gpermitSearch => ((.tup [] : V), ([(100, some (.row 2 1 (r.some_.map (V.int .i64)))), (101, some (.row 2 1 (r.best.map (V.int .i64)))), (0, some (.box 109 [.int .i64 s_.mine.Junctions, .sl 7 (s_.mine.Airways.map gAirway.v), .sl 5 (s_.list.map gPermit.v), .int .i64 r.budget, .os 100 r.some_.length, .os 101 r.best.length, .int .i64 r.most]))] : List (Nat × Option O)))) (r := (m_impl_permitSearch_visit_body self_ s_ i)) Try.func66 rfl Try.ntmps66 rfl ?_
  have hW := wr64 (n := i + 1) (by omega)
  refine run_sub (s' := ⟨[(0, some (true, .op 0 0 0 0)), (1, some (true, .int .i64 i))], [(0, some (.box 109 [.int .i64 s_.mine.Junctions, .sl 7 (s_.mine.Airways.map gAirway.v), .sl 5 (s_.list.map gPermit.v), .int .i64 s_.budget, .os 200 s_.some_.length, .os 201 s_.best.length, .int .i64 s_.most])), (200, some (.row 2 1 (s_.some_.map (V.int .i64)))), (201, some (.row 2 1 (s_.best.map (V.int .i64))))]⟩) (sub_of [(200, 14), (201, 15)] ⟨rfl, rfl, trivial⟩ ⟨rfl, rfl, rfl, trivial⟩ rfl) ?_
  refine run_factH (l := 200) rfl fun hl => ?_
  have l1 := hl; clear hl; simp only [List.length_map] at l1
  refine run_factH (l := 201) rfl fun hl => ?_
  have l2 := hl; clear hl; simp only [List.length_map] at l2
  refine run_seq ?_
  refine run_region (q_box (l := 202) .n rfl (.t rfl) rfl rfl rfl rfl <|
      q_box (l := 203) .n rfl (.t rfl) rfl rfl rfl rfl <|
      Lex.nil) ?_
  refine run_seq ?_
  refine run_seq ?_
  refine run_draw fmo (q_ld1_ow .n (.t rfl) rfl (.inr rfl) (fun _ => rfl) rfl ic_3 rfl <|
      q_ld1_ow .n (.t rfl) rfl (.inr rfl) (fun _ => rfl) rfl ic_144 rfl <|
      q_nilc_ow .n (.t rfl) rfl <|
      q_fld_ow .n (.t rfl) fo_109_1 rfl <|
      q_ld1_ow .n (.t rfl) rfl (.inr rfl) (fun _ => rfl) rfl ic_50 rfl <|
      q_len .n (.t rfl) rfl len_map ss_50 rfl <|
      q_int .n (.t rfl) (.t rfl) rfl rfl <|
      Lex.nil) (by kernel_rfl) ?_
  refine run_fact (t := 10) rfl fun hl => ?_
  have l3 := hl; clear hl; simp only [List.length_map] at l3
  refine run_cond (.t rfl) rfl (fun h4 => ?_) (fun h4 => ?_)
  · try simp only [Bool.and_eq_true, Bool.or_eq_true, Bool.not_eq_true', Bool.and_eq_false_iff, Bool.or_eq_false_iff, Bool.not_eq_false', decide_eq_true_eq, decide_eq_false_iff_not, beq_iff_eq, bne_iff_ne, beq_eq_false_iff_ne, bne_eq_false_iff_eq, Bool.true_and, ne_eq, Decidable.not_not, Int.not_lt, Int.not_le, Nat.not_lt, Nat.not_le, strB_nil, strB_nil', strB_nnil, strB_nnil'] at h4
    refine run_seq ?_
    refine run_draw fmo (q_ld1_ow .n (.t rfl) rfl (.inr rfl) (fun _ => rfl) rfl ic_144 rfl <|
        q_ld1_ow .n (.t rfl) rfl (.inr rfl) (fun _ => rfl) rfl ic_144 rfl <|
        q_ld1_ow .n (.t rfl) rfl (.inr rfl) (fun _ => rfl) rfl ic_144 rfl <|
        q_nilc_ow .n (.t rfl) rfl <|
        q_fld_ow .n (.t rfl) fo_109_3 rfl <|
        q_ld1_ow .n (.t rfl) rfl (.inr rfl) (fun _ => rfl) rfl ic_25 rfl <|
        q_callM (full := true) [] [(100, 204)] .n rfl .f en_86 (.cons (.t rfl) .nil) (.cons (.b (.a (.own rfl rfl rfl (take_all (by simp only [len_map, put_len] <;> rfl)) (by simp only [len_map, put_len] <;> rfl)))) .nil) (c_slices_Clone_int64 s_.some_ (by omega)) trivial rfl rfl (fun _ => rfl) (fun _ => (hr_row (fun _ => rfl) hr_nil)) rfl <|
        q_ld1_ow .n (.t rfl) rfl (.inr rfl) (fun _ => rfl) rfl ic_144 rfl <|
        q_nilc_ow .n (.t rfl) rfl <|
        q_fld_ow .n (.t rfl) fo_109_3 rfl <|
        q_ld1_ow .n (.t rfl) rfl (.inr rfl) (fun _ => rfl) rfl ic_25 rfl <|
        q_len .n (.t rfl) rfl rfl ss_25 rfl <|
        q_nilc_ow .n (.t rfl) rfl <|
        q_fld_ow .n (.t rfl) fo_109_4 rfl <|
        q_st_boxm [.int .i64 s_.mine.Junctions, .sl 7 (s_.mine.Airways.map gAirway.v), .sl 5 (s_.list.map gPermit.v), .int .i64 s_.budget, .os 200 s_.some_.length, .os 204 (m_slices_Clone_int64 s_.some_).length, .int .i64 s_.most] .n rfl (.t rfl) (.t rfl) rfl ts_25 rfl rfl <|
        q_nilc_ow .n (.t rfl) rfl <|
        q_fld_ow .n (.t rfl) fo_109_5 rfl <|
        q_st_boxm [.int .i64 s_.mine.Junctions, .sl 7 (s_.mine.Airways.map gAirway.v), .sl 5 (s_.list.map gPermit.v), .int .i64 s_.budget, .os 200 s_.some_.length, .os 204 (m_slices_Clone_int64 s_.some_).length, .int .i64 (s_.some_.length : Int)] .n rfl (.t rfl) (.t rfl) rfl ts_3 rfl rfl <|
        Lex.nil) (by kernel_rfl) ?_
    exact run_ret [(100, 200), (101, 204)] .nil rfl ⟨rfl, rfl, rfl, trivial⟩ rfl
  · try simp only [Bool.and_eq_true, Bool.or_eq_true, Bool.not_eq_true', Bool.and_eq_false_iff, Bool.or_eq_false_iff, Bool.not_eq_false', decide_eq_true_eq, decide_eq_false_iff_not, beq_iff_eq, bne_iff_ne, beq_eq_false_iff_ne, bne_eq_false_iff_eq, Bool.true_and, ne_eq, Decidable.not_not, Int.not_lt, Int.not_le, Nat.not_lt, Nat.not_le, strB_nil, strB_nil', strB_nnil, strB_nnil'] at h4
    refine run_skip ?_
    refine run_seq ?_
    refine run_draw fmo (q_ld1_ow .n (.t rfl) rfl (.inr rfl) (fun _ => rfl) rfl ic_144 rfl <|
        q_nilc_ow .n (.t rfl) rfl <|
        q_fld_ow .n (.t rfl) fo_109_1 rfl <|
        q_ld1_ow .n (.t rfl) rfl (.inr rfl) (fun _ => rfl) rfl ic_50 rfl <|
        q_len .n (.t rfl) rfl len_map ss_50 rfl <|
        q_ld1_ow .n (.t rfl) rfl (.inr rfl) (fun _ => rfl) rfl ic_3 rfl <|
        q_int .n (.t rfl) (.t rfl) rfl rfl <|
        q_assign .n (.t rfl) rfl <|
        Lex.nil) (by kernel_rfl) ?_
    refine run_seq ?_
    refine run_region (q_ld1_ow .n (.t rfl) rfl (.inr rfl) (fun _ => rfl) rfl ic_144 rfl <|
        q_nilc_ow .n (.t rfl) rfl <|
        q_fld_ow .n (.t rfl) fo_109_3 rfl <|
        q_ld1_ow .n (.t rfl) rfl (.inr rfl) (fun _ => rfl) rfl ic_25 rfl <|
        q_clo .n (.cons (.t rfl) (.cons (.t rfl) .nil)) rfl rfl <|
        q_call0 (full := true) .n .f en_100 (.cons (.t rfl) (.cons (.t rfl) .nil)) (.cons (.b (.a (.own rfl rfl rfl (take_all (by simp only [len_map, put_len] <;> rfl)) (by simp only [len_map, put_len] <;> rfl)))) (.cons (.clo (.cons (.ptr rfl rfl (.inr rfl) rfl rfl (.ptr rfl rfl (.inr rfl) rfl rfl (.cons (.same rfl) (.cons (.same rfl) (.cons (.same rfl) (.cons (.same rfl) (.cons (.own rfl rfl rfl (take_all (by simp only [len_map, put_len] <;> rfl)) (by simp only [len_map, put_len] <;> rfl)) (.cons (.own rfl rfl rfl (take_all (by simp only [len_map, put_len] <;> rfl)) (by simp only [len_map, put_len] <;> rfl)) (.cons (.same rfl) .nil))))))) .nil)) (.cons (.ptr rfl rfl (.inr rfl) rfl rfl (.cons (.same rfl) .nil)) .nil))) .nil)) (fun hg => c_slices_ContainsFunc_int64 s_.some_ (fun (a0 : Int) => m_impl_permitSearch_visit_1 a0 s_ i) 101 [.rp [.rp [.int .i64 s_.mine.Junctions, .sl 7 (s_.mine.Airways.map gAirway.v), .sl 5 (s_.list.map gPermit.v), .int .i64 s_.budget, .sl 1 (s_.some_.map (V.int .i64)), .sl 1 (s_.best.map (V.int .i64)), .int .i64 s_.most]], .rp [.int .i64 i]] en_101 rfl (fun y => 0 ≤ y ∧ y < s_.list.length) (fun a0 hq0 => c_impl_permitSearch_visit_1 a0 s_ i (by (try dsimp only at *); omega) (by (try dsimp only at *); omega) (by (try dsimp only at *); omega)) (by omega)) rfl (fun _ => rfl) rfl <|
        q_assign .n (.t rfl) rfl <|
        Lex.nil) ?_
    refine run_seq ?_
    refine run_seq ?_
    refine run_draw fmo (q_move .n (.t rfl) rfl <|
        q_not .n (.t rfl) rfl <|
        q_move .n (.t rfl) rfl <|
        q_ld1_ow (.t rfl rfl) (.t rfl) rfl (.inr rfl) (fun _ => rfl) rfl ic_144 rfl <|
        q_nilc_ow (.t rfl rfl) (.u rfl id) rfl <|
        q_fld_ow (.t rfl rfl) (.u rfl id) fo_109_3 rfl <|
        q_ld1_ow (.t rfl rfl) (.u rfl id) rfl (.inr rfl) (fun _ => rfl) rfl ic_25 rfl <|
        q_len (.t rfl rfl) (.u rfl id) rfl rfl ss_25 rfl <|
        q_move (.t rfl rfl) (.t rfl) rfl <|
        q_int (.t rfl rfl) (.u rfl id) (.u rfl id) rfl rfl <|
        q_ld1_ow (.t rfl rfl) (.t rfl) rfl (.inr rfl) (fun _ => rfl) rfl ic_144 rfl <|
        q_nilc_ow (.t rfl rfl) (.u rfl id) rfl <|
        q_fld_ow (.t rfl rfl) (.u rfl id) fo_109_5 rfl <|
        q_ld1_ow (.t rfl rfl) (.u rfl id) rfl (.inr rfl) (fun _ => rfl) rfl ic_3 rfl <|
        q_int (.t rfl rfl) (.u rfl id) (.u rfl id) rfl rfl <|
        q_and .n (.t rfl) (.u rfl id) rfl <|
        Lex.nil) (by kernel_rfl) ?_
    refine run_join _ _ rfl (fun v5 : Int × (List Int) × (List Int) × Int × Int => v5.2.1 = s_.some_) (fun v5 => ⟨[(2, some (true, .op 202 0 0 0)), (3, some (true, .op 203 0 0 0)), (4, some (true, .int .i64 v5.2.2.2.2))], [(0, some (.box 109 [.int .i64 s_.mine.Junctions, .sl 7 (s_.mine.Airways.map gAirway.v), .sl 5 (s_.list.map gPermit.v), .int .i64 v5.1, .os 207 v5.2.1.length, .os 208 v5.2.2.1.length, .int .i64 v5.2.2.2.1])), (202, some (.box 144 [.op 0 0 0 0])), (203, some (.box 3 [.int .i64 i])), (207, some (.row 2 1 (v5.2.1.map (V.int .i64)))), (208, some (.row 2 1 (v5.2.2.1.map (V.int .i64))))]⟩) (fun v5 hv20 => ?_) (fun j6 hj7 => ?_)
    · have e21 := hv20
      refine run_seq ?_
      refine run_draw fmo (q_ld1_ow .n (.t rfl) rfl (.inr rfl) (fun _ => rfl) rfl ic_144 rfl <|
          q_nilc_ow .n (.t rfl) rfl <|
          q_fld_ow .n (.t rfl) fo_109_2 rfl <|
          q_ld1_ow .n (.t rfl) rfl (.inr rfl) (fun _ => rfl) rfl ic_2 rfl <|
          q_int .n (.t rfl) (.c rfl) rfl rfl <|
          q_move .n (.t rfl) rfl <|
          q_ld1_ow (.t rfl rfl) (.t rfl) rfl (.inr rfl) (fun _ => rfl) rfl ic_144 rfl <|
          q_nilc_ow (.t rfl rfl) (.u rfl id) rfl <|
          q_fld_ow (.t rfl rfl) (.u rfl id) fo_109_3 rfl <|
          q_ld1_ow (.t rfl rfl) (.u rfl id) rfl (.inr rfl) (fun _ => rfl) rfl ic_25 rfl <|
          q_len (.t rfl rfl) (.u rfl id) rfl rfl ss_25 rfl <|
          q_move (.t rfl rfl) (.t rfl) rfl <|
          q_int (.t rfl rfl) (.u rfl id) (.u rfl id) rfl rfl <|
          q_int (.t rfl rfl) (.u rfl id) (.c rfl) rfl rfl <|
          q_ld1_ow (.t rfl rfl) (.t rfl) rfl (.inr rfl) (fun _ => rfl) rfl ic_144 rfl <|
          q_nilc_ow (.t rfl rfl) (.u rfl id) rfl <|
          q_fld_ow (.t rfl rfl) (.u rfl id) fo_109_5 rfl <|
          q_ld1_ow (.t rfl rfl) (.u rfl id) rfl (.inr rfl) (fun _ => rfl) rfl ic_3 rfl <|
          q_int (.t rfl rfl) (.u rfl id) (.u rfl id) rfl rfl <|
          q_and .n (.t rfl) (.u rfl id) rfl <|
          Lex.nil) (by kernel_rfl) ?_
      refine run_cond (.t rfl) rfl (fun h15 => ?_) (fun h15 => ?_)
      · try simp only [Bool.and_eq_true, Bool.or_eq_true, Bool.not_eq_true', Bool.and_eq_false_iff, Bool.or_eq_false_iff, Bool.not_eq_false', decide_eq_true_eq, decide_eq_false_iff_not, beq_iff_eq, bne_iff_ne, beq_eq_false_iff_ne, bne_eq_false_iff_eq, Bool.true_and, ne_eq, Decidable.not_not, Int.not_lt, Int.not_le, Nat.not_lt, Nat.not_le, strB_nil, strB_nil', strB_nnil, strB_nnil'] at h15
        refine run_seq ?_
        refine run_region (q_ld1_ow .n (.t rfl) rfl (.inr rfl) (fun _ => rfl) rfl ic_144 rfl <|
            q_nilc_ow .n (.t rfl) rfl <|
            q_fld_ow .n (.t rfl) fo_109_2 rfl <|
            q_ld1_ow .n (.t rfl) rfl (.inr rfl) (fun _ => rfl) rfl ic_2 rfl <|
            q_int .n (.t rfl) (.c rfl) rfl rfl <|
            q_nilc_ow .n (.t rfl) rfl <|
            q_fld_ow .n (.t rfl) fo_109_2 rfl <|
            q_st_boxm [.int .i64 s_.mine.Junctions, .sl 7 (s_.mine.Airways.map gAirway.v), .sl 5 (s_.list.map gPermit.v), .int .i64 (IntKind.wrap .i64 (v5.1 - 1)), .os 207 v5.2.1.length, .os 208 v5.2.2.1.length, .int .i64 v5.2.2.2.1] .n rfl (.t rfl) (.t rfl) rfl ts_2 rfl rfl <|
            Lex.nil) ?_
        refine run_seq ?_
        refine run_region (q_ld1_ow .n (.t rfl) rfl (.inr rfl) (fun _ => rfl) rfl ic_144 rfl <|
            q_nilc_ow .n (.t rfl) rfl <|
            q_fld_ow .n (.t rfl) fo_109_2 rfl <|
            q_ld1_ow .n (.t rfl) rfl (.inr rfl) (fun _ => rfl) rfl ic_2 rfl <|
            q_int .n (.t rfl) (.c rfl) rfl rfl <|
            Lex.nil) ?_
        refine run_cond (.t rfl) rfl (fun h16 => ?_) (fun h16 => ?_)
        · try simp only [Bool.and_eq_true, Bool.or_eq_true, Bool.not_eq_true', Bool.and_eq_false_iff, Bool.or_eq_false_iff, Bool.not_eq_false', decide_eq_true_eq, decide_eq_false_iff_not, beq_iff_eq, bne_iff_ne, beq_eq_false_iff_ne, bne_eq_false_iff_eq, Bool.true_and, ne_eq, Decidable.not_not, Int.not_lt, Int.not_le, Nat.not_lt, Nat.not_le, strB_nil, strB_nil', strB_nnil, strB_nnil'] at h16
          refine run_region (q_ld1_ow .n (.t rfl) rfl (.inr rfl) (fun _ => rfl) rfl ic_144 rfl <|
              q_ld1_ow .n (.t rfl) rfl (.inr rfl) (fun _ => rfl) rfl ic_3 rfl <|
              q_int .n (.t rfl) (.c rfl) rfl rfl <|
              q_callM (full := false) [(0, 0), (14, 207), (15, 208)] [(100, 209), (101, 210)] .n rfl .f en_66 (.cons (.t rfl) (.cons (.t rfl) .nil)) (.cons (.b (.mutp rfl)) (.cons (.b (.a (.same rfl))) .nil)) (ih (gpermitSearch.mk s_.mine s_.list (IntKind.wrap .i64 (v5.1 - 1)) v5.2.1 v5.2.2.1 v5.2.2.2.1) (IntKind.wrap .i64 (i + 1)) (by omega) (by omega) (by (simp only [List.length_append, List.length_cons, List.length_nil, List.length_replicate, put_len] at * <;> omega)) (by ((have he := (show v5.2.1 = s_.some_ by assumption); dsimp only; rw [he]; omega))) (by ((have he := (show v5.2.1 = s_.some_ by assumption); dsimp only; rw [he]; omega))) (by (simp only [List.length_append, List.length_cons, List.length_nil, List.length_replicate, put_len] at * <;> omega))) ⟨rfl, rfl, rfl, trivial⟩ rfl rfl (fun h => Bool.noConfusion h) (fun h => Bool.noConfusion h) rfl <|
              Lex.nil) ?_
          refine run_cut _ _ rfl (fun v17 : Int × Int × (List Int) × (List Int) => True) (fun v17 => ⟨[], [(0, some (.box 109 [.int .i64 s_.mine.Junctions, .sl 7 (s_.mine.Airways.map gAirway.v), .sl 5 (s_.list.map gPermit.v), .int .i64 v17.1, .os 209 v17.2.2.1.length, .os 210 v17.2.2.2.length, .int .i64 v17.2.1])), (209, some (.row 2 1 (v17.2.2.1.map (V.int .i64)))), (210, some (.row 2 1 (v17.2.2.2.map (V.int .i64))))]⟩) (fun v17 _ => ?_) (fun j18 hj19 => ?_)
          · exact run_end [(100, 209), (101, 210)] .nil rfl ⟨rfl, rfl, rfl, trivial⟩ rfl
          · exact run_cont hj19 ((self_ (gpermitSearch.mk s_.mine s_.list (IntKind.wrap .i64 (v5.1 - 1)) v5.2.1 v5.2.2.1 v5.2.2.2.1) (IntKind.wrap .i64 (i + 1))).budget, (self_ (gpermitSearch.mk s_.mine s_.list (IntKind.wrap .i64 (v5.1 - 1)) v5.2.1 v5.2.2.1 v5.2.2.2.1) (IntKind.wrap .i64 (i + 1))).most, (self_ (gpermitSearch.mk s_.mine s_.list (IntKind.wrap .i64 (v5.1 - 1)) v5.2.1 v5.2.2.1 v5.2.2.2.1) (IntKind.wrap .i64 (i + 1))).some_, (self_ (gpermitSearch.mk s_.mine s_.list (IntKind.wrap .i64 (v5.1 - 1)) v5.2.1 v5.2.2.1 v5.2.2.2.1) (IntKind.wrap .i64 (i + 1))).best) trivial (sub_of [] trivial ⟨rfl, rfl, rfl, trivial⟩ rfl)
        · try simp only [Bool.and_eq_true, Bool.or_eq_true, Bool.not_eq_true', Bool.and_eq_false_iff, Bool.or_eq_false_iff, Bool.not_eq_false', decide_eq_true_eq, decide_eq_false_iff_not, beq_iff_eq, bne_iff_ne, beq_eq_false_iff_ne, bne_eq_false_iff_eq, Bool.true_and, ne_eq, Decidable.not_not, Int.not_lt, Int.not_le, Nat.not_lt, Nat.not_le, strB_nil, strB_nil', strB_nnil, strB_nnil'] at h16
          refine run_skip ?_
          exact run_end [(100, 207), (101, 208)] .nil rfl ⟨rfl, rfl, rfl, trivial⟩ rfl
      · try simp only [Bool.and_eq_true, Bool.or_eq_true, Bool.not_eq_true', Bool.and_eq_false_iff, Bool.or_eq_false_iff, Bool.not_eq_false', decide_eq_true_eq, decide_eq_false_iff_not, beq_iff_eq, bne_iff_ne, beq_eq_false_iff_ne, bne_eq_false_iff_eq, Bool.true_and, ne_eq, Decidable.not_not, Int.not_lt, Int.not_le, Nat.not_lt, Nat.not_le, strB_nil, strB_nil', strB_nnil, strB_nnil'] at h15
        refine run_skip ?_
        exact run_end [(100, 207), (101, 208)] .nil rfl ⟨rfl, rfl, rfl, trivial⟩ rfl
    · refine run_cond (.t rfl) rfl (fun h8 => ?_) (fun h8 => ?_)
      · try simp only [Bool.and_eq_true, Bool.or_eq_true, Bool.not_eq_true', Bool.and_eq_false_iff, Bool.or_eq_false_iff, Bool.not_eq_false', decide_eq_true_eq, decide_eq_false_iff_not, beq_iff_eq, bne_iff_ne, beq_eq_false_iff_ne, bne_eq_false_iff_eq, Bool.true_and, ne_eq, Decidable.not_not, Int.not_lt, Int.not_le, Nat.not_lt, Nat.not_le, strB_nil, strB_nil', strB_nnil, strB_nnil'] at h8
        refine run_seq ?_
        refine run_seq ?_
        refine run_region (q_ld1_ow .n (.t rfl) rfl (.inr rfl) (fun _ => rfl) rfl ic_144 rfl <|
            q_nilc_ow .n (.t rfl) rfl <|
            q_fld_ow .n (.t rfl) fo_109_2 rfl <|
            q_ld1_ow .n (.t rfl) rfl (.inr rfl) (fun _ => rfl) rfl ic_2 rfl <|
            q_int .n (.t rfl) (.c rfl) rfl rfl <|
            q_nilc_ow .n (.t rfl) rfl <|
            q_fld_ow .n (.t rfl) fo_109_2 rfl <|
            q_st_boxm [.int .i64 s_.mine.Junctions, .sl 7 (s_.mine.Airways.map gAirway.v), .sl 5 (s_.list.map gPermit.v), .int .i64 (IntKind.wrap .i64 (s_.budget - 1)), .os 200 s_.some_.length, .os 201 s_.best.length, .int .i64 s_.most] .n rfl (.t rfl) (.t rfl) rfl ts_2 rfl rfl <|
            Lex.nil) ?_
        refine run_seq ?_
        refine run_region (q_ld1_ow .n (.t rfl) rfl (.inr rfl) (fun _ => rfl) rfl ic_144 rfl <|
            q_nilc_ow .n (.t rfl) rfl <|
            q_fld_ow .n (.t rfl) fo_109_2 rfl <|
            q_ld1_ow .n (.t rfl) rfl (.inr rfl) (fun _ => rfl) rfl ic_2 rfl <|
            q_int .n (.t rfl) (.c rfl) rfl rfl <|
            Lex.nil) ?_
        refine run_cond (.t rfl) rfl (fun h9 => ?_) (fun h9 => ?_)
        · try simp only [Bool.and_eq_true, Bool.or_eq_true, Bool.not_eq_true', Bool.and_eq_false_iff, Bool.or_eq_false_iff, Bool.not_eq_false', decide_eq_true_eq, decide_eq_false_iff_not, beq_iff_eq, bne_iff_ne, beq_eq_false_iff_ne, bne_eq_false_iff_eq, Bool.true_and, ne_eq, Decidable.not_not, Int.not_lt, Int.not_le, Nat.not_lt, Nat.not_le, strB_nil, strB_nil', strB_nnil, strB_nnil'] at h9
          exact run_ret [(100, 200), (101, 201)] .nil rfl ⟨rfl, rfl, rfl, trivial⟩ rfl
        · try simp only [Bool.and_eq_true, Bool.or_eq_true, Bool.not_eq_true', Bool.and_eq_false_iff, Bool.or_eq_false_iff, Bool.not_eq_false', decide_eq_true_eq, decide_eq_false_iff_not, beq_iff_eq, bne_iff_ne, beq_eq_false_iff_ne, bne_eq_false_iff_eq, Bool.true_and, ne_eq, Decidable.not_not, Int.not_lt, Int.not_le, Nat.not_lt, Nat.not_le, strB_nil, strB_nil', strB_nnil, strB_nnil'] at h9
          refine run_skip ?_
          refine run_seq ?_
          refine run_draw fmo (q_ld1_ow .n (.t rfl) rfl (.inr rfl) (fun _ => rfl) rfl ic_144 rfl <|
              q_ld1_ow .n (.t rfl) rfl (.inr rfl) (fun _ => rfl) rfl ic_144 rfl <|
              q_nilc_ow .n (.t rfl) rfl <|
              q_fld_ow .n (.t rfl) fo_109_3 rfl <|
              q_ld1_ow .n (.t rfl) rfl (.inr rfl) (fun _ => rfl) rfl ic_25 rfl <|
              q_ld1_ow .n (.t rfl) rfl (.inr rfl) (fun _ => rfl) rfl ic_3 rfl <|
              q_bslicem ([i] : List Int) (f := V.int .i64) (l := 205) .n rfl rfl (.cons (.t rfl) .nil) rfl si_25 zv_2 rfl rfl rfl <|
              q_appm (xs := s_.some_) (ys := ([i] : List Int)) (f := V.int .i64) (l := 206) .n rfl (.ow (.t rfl) rfl (take_all (by simp only [len_map, put_len] <;> rfl)) (by simp only [len_map, put_len] <;> rfl)) (.ow (.t rfl) rfl (take_all (by simp only [len_map, put_len] <;> rfl)) (by simp only [len_map, put_len] <;> rfl)) si_25 zv_2 rfl (by (simp only [List.length_append, List.length_cons, List.length_nil, List.length_replicate, put_len] at * <;> omega)) rfl rfl <|
              q_nilc_ow .n (.t rfl) rfl <|
              q_fld_ow .n (.t rfl) fo_109_3 rfl <|
              q_st_boxm [.int .i64 s_.mine.Junctions, .sl 7 (s_.mine.Airways.map gAirway.v), .sl 5 (s_.list.map gPermit.v), .int .i64 (IntKind.wrap .i64 (s_.budget - 1)), .os 206 (s_.some_ ++ ([i] : List Int)).length, .os 201 s_.best.length, .int .i64 s_.most] .n rfl (.t rfl) (.t rfl) rfl ts_25 rfl rfl <|
              Lex.nil) (by kernel_rfl) ?_
          refine run_seq ?_
          refine run_region (q_ld1_ow .n (.t rfl) rfl (.inr rfl) (fun _ => rfl) rfl ic_144 rfl <|
              q_ld1_ow .n (.t rfl) rfl (.inr rfl) (fun _ => rfl) rfl ic_3 rfl <|
              q_int .n (.t rfl) (.c rfl) rfl rfl <|
              q_callM (full := false) [(0, 0), (14, 206), (15, 201)] [(100, 207), (101, 208)] .n rfl .f en_66 (.cons (.t rfl) (.cons (.t rfl) .nil)) (.cons (.b (.mutp rfl)) (.cons (.b (.a (.same rfl))) .nil)) (ih (gpermitSearch.mk s_.mine s_.list (IntKind.wrap .i64 (s_.budget - 1)) (s_.some_ ++ ([i] : List Int)) s_.best s_.most) (IntKind.wrap .i64 (i + 1)) (by omega) (by omega) (by (simp only [List.length_append, List.length_cons, List.length_nil, List.length_replicate, put_len] at * <;> omega)) (by (simp only [List.length_append, List.length_cons, List.length_nil, List.length_replicate, put_len] at * <;> omega)) (by ((intro y hy; dsimp only at hy ⊢; simp only [List.mem_append, List.mem_singleton] at hy; rcases hy with hy | hy; exact hp5 y hy; omega))) (by (simp only [List.length_append, List.length_cons, List.length_nil, List.length_replicate, put_len] at * <;> omega))) ⟨rfl, rfl, rfl, trivial⟩ rfl rfl (fun h => Bool.noConfusion h) (fun h => Bool.noConfusion h) rfl <|
              Lex.nil) ?_
          refine run_cut _ _ rfl (fun v10 : Int × Int × Int × (List Int) × (List Int) => v10.2.2.2.1 = s_.some_ ++ ([i] : List Int)) (fun v10 => ⟨[(2, some (true, .op 202 0 0 0)), (3, some (true, .op 203 0 0 0)), (4, some (true, .int .i64 v10.1))], [(0, some (.box 109 [.int .i64 s_.mine.Junctions, .sl 7 (s_.mine.Airways.map gAirway.v), .sl 5 (s_.list.map gPermit.v), .int .i64 v10.2.1, .os 207 v10.2.2.2.1.length, .os 208 v10.2.2.2.2.length, .int .i64 v10.2.2.1])), (202, some (.box 144 [.op 0 0 0 0])), (203, some (.box 3 [.int .i64 i])), (207, some (.row 2 1 (v10.2.2.2.1.map (V.int .i64)))), (208, some (.row 2 1 (v10.2.2.2.2.map (V.int .i64))))]⟩) (fun v10 hv13 => ?_) (fun j11 hj12 => ?_)
          · have e14 := hv13
            refine run_draw fmo (q_ld1_ow .n (.t rfl) rfl (.inr rfl) (fun _ => rfl) rfl ic_144 rfl <|
                q_ld1_ow .n (.t rfl) rfl (.inr rfl) (fun _ => rfl) rfl ic_144 rfl <|
                q_nilc_ow .n (.t rfl) rfl <|
                q_fld_ow .n (.t rfl) fo_109_3 rfl <|
                q_ld1_ow .n (.t rfl) rfl (.inr rfl) (fun _ => rfl) rfl ic_25 rfl <|
                q_ld1_ow .n (.t rfl) rfl (.inr rfl) (fun _ => rfl) rfl ic_144 rfl <|
                q_nilc_ow .n (.t rfl) rfl <|
                q_fld_ow .n (.t rfl) fo_109_3 rfl <|
                q_ld1_ow .n (.t rfl) rfl (.inr rfl) (fun _ => rfl) rfl ic_25 rfl <|
                q_len .n (.t rfl) rfl rfl ss_25 rfl <|
                q_int .n (.t rfl) (.c rfl) rfl rfl <|
                q_cut_owm (xs := v10.2.2.2.1) (b := (IntKind.wrap .i64 ((v10.2.2.2.1.length : Int) - 1))) .n (.t rfl) (.s (.t rfl)) sl_25 (fun _ => by ((have hc := (show v10.2.2.2.1 = s_.some_ ++ ([i] : List Int) by assumption); rw [hc]; simp only [List.length_append, List.length_cons, List.length_nil]; rw [wr64 (by omega)]; omega))) rfl <|
                q_nilc_ow .n (.t rfl) rfl <|
                q_fld_ow .n (.t rfl) fo_109_3 rfl <|
                q_st_boxm [.int .i64 s_.mine.Junctions, .sl 7 (s_.mine.Airways.map gAirway.v), .sl 5 (s_.list.map gPermit.v), .int .i64 v10.2.1, .os 207 (pre' v10.2.2.2.1 (IntKind.wrap .i64 ((v10.2.2.2.1.length : Int) - 1))).length, .os 208 v10.2.2.2.2.length, .int .i64 v10.2.2.1] .n rfl (.t rfl) (.t rfl) rfl ts_25 rfl rfl <|
                Lex.nil) (by kernel_rfl) ?_
            refine run_shrink (f := V.int .i64) (xs := v10.2.2.2.1) (l := 207) (IntKind.wrap .i64 ((v10.2.2.2.1.length : Int) - 1)) rfl ?_
            exact run_cont hj7 (v10.2.1, pre' v10.2.2.2.1 (IntKind.wrap .i64 ((v10.2.2.2.1.length : Int) - 1)), v10.2.2.2.2, v10.2.2.1, v10.1) (by ((have hc := (show v10.2.2.2.1 = s_.some_ ++ ([i] : List Int) by assumption); dsimp only; rw [hc]; exact app_cut (by omega)))) (sub_of [] ⟨rfl, rfl, rfl, trivial⟩ ⟨rfl, rfl, rfl, rfl, rfl, trivial⟩ rfl)
          · exact run_cont hj12 (IntKind.wrap .i64 ((s_.list.length : Int) - i), (self_ (gpermitSearch.mk s_.mine s_.list (IntKind.wrap .i64 (s_.budget - 1)) (s_.some_ ++ ([i] : List Int)) s_.best s_.most) (IntKind.wrap .i64 (i + 1))).budget, (self_ (gpermitSearch.mk s_.mine s_.list (IntKind.wrap .i64 (s_.budget - 1)) (s_.some_ ++ ([i] : List Int)) s_.best s_.most) (IntKind.wrap .i64 (i + 1))).most, (self_ (gpermitSearch.mk s_.mine s_.list (IntKind.wrap .i64 (s_.budget - 1)) (s_.some_ ++ ([i] : List Int)) s_.best s_.most) (IntKind.wrap .i64 (i + 1))).some_, (self_ (gpermitSearch.mk s_.mine s_.list (IntKind.wrap .i64 (s_.budget - 1)) (s_.some_ ++ ([i] : List Int)) s_.best s_.most) (IntKind.wrap .i64 (i + 1))).best) (by ((rw [hW]; exact hself _ _ (by dsimp only; simp only [List.length_append, List.length_cons, List.length_nil]; omega) (by omega) (by dsimp only; omega) (by dsimp only; omega) (by dsimp only; omega)))) (sub_of [] ⟨rfl, rfl, rfl, trivial⟩ ⟨rfl, rfl, rfl, rfl, rfl, trivial⟩ rfl)
      · try simp only [Bool.and_eq_true, Bool.or_eq_true, Bool.not_eq_true', Bool.and_eq_false_iff, Bool.or_eq_false_iff, Bool.not_eq_false', decide_eq_true_eq, decide_eq_false_iff_not, beq_iff_eq, bne_iff_ne, beq_eq_false_iff_ne, bne_eq_false_iff_eq, Bool.true_and, ne_eq, Decidable.not_not, Int.not_lt, Int.not_le, Nat.not_lt, Nat.not_le, strB_nil, strB_nil', strB_nnil, strB_nnil'] at h8
        refine run_skip ?_
        exact run_cont hj7 (s_.budget, s_.some_, s_.best, s_.most, IntKind.wrap .i64 ((s_.list.length : Int) - i)) (by (simp only [List.length_append, List.length_cons, List.length_nil, List.length_replicate, put_len] at * <;> omega)) (sub_of [(207, 200), (208, 201)] ⟨rfl, rfl, rfl, trivial⟩ ⟨rfl, rfl, rfl, rfl, rfl, trivial⟩ rfl)
theorem c_impl_permitSearch_visit (s_ : gpermitSearch) (i : Int) (hp1 : PmIn s_.mine.Airways.length s_.list) (hp2 : s_.list.length ≤ 16) (hp3 : 0 ≤ i ∧ i ≤ s_.list.length) (hp4 : (s_.some_.length : Int) ≤ i) (hp5 : ∀ y ∈ s_.some_, 0 ≤ y ∧ y < s_.list.length) : Con Try.prog 66 [.op 0 0 0 0, .int .i64 i] [(0, some (.box 109 [.int .i64 s_.mine.Junctions, .sl 7 (s_.mine.Airways.map gAirway.v), .sl 5 (s_.list.map gPermit.v), .int .i64 s_.budget, .os 14 s_.some_.length, .os 15 s_.best.length, .int .i64 s_.most])), (14, some (.row 2 1 (s_.some_.map (V.int .i64)))), (15, some (.row 2 1 (s_.best.map (V.int .i64))))] (.tup []) ([(100, some (.row 2 1 ((m_impl_permitSearch_visit s_ i).some_.map (V.int .i64)))), (101, some (.row 2 1 ((m_impl_permitSearch_visit s_ i).best.map (V.int .i64)))), (0, some (.box 109 [.int .i64 s_.mine.Junctions, .sl 7 (s_.mine.Airways.map gAirway.v), .sl 5 (s_.list.map gPermit.v), .int .i64 (m_impl_permitSearch_visit s_ i).budget, .os 100 (m_impl_permitSearch_visit s_ i).some_.length, .os 101 (m_impl_permitSearch_visit s_ i).best.length, .int .i64 (m_impl_permitSearch_visit s_ i).most]))]) := by
  exact c_impl_permitSearch_visit_n (((s_.list.length : Int) - i).toNat + 1) s_ i hp1 hp2 hp3 hp4 hp5 (by omega)


/-! ### impl_MostPermits -/
theorem c_impl_MostPermits (m_ : gMine) (list : List gPermit) (budget : Int) : Con Try.prog 26 [.st [.int .i64 m_.Junctions, .sl 7 (m_.Airways.map gAirway.v)], .sl 5 (list.map gPermit.v), .int .i64 budget] [] (.tup [.os 100 (m_impl_MostPermits m_ list budget).1.length, .int .i64 (m_impl_MostPermits m_ list budget).2]) ([(100, some (.row 2 1 ((m_impl_MostPermits m_ list budget).1.map (V.int .i64))))]) := by
  refine con_intro (out := fun r : (List Int) × Int => ((.tup [.os 100 r.1.length, .int .i64 r.2] : V), ([(100, some (.row 2 1 (r.1.map (V.int .i64))))] : List (Nat × Option O)))) (r := (m_impl_MostPermits m_ list budget)) Try.func26 rfl Try.ntmps26 rfl ?_
  refine run_factS (t := 0) 1 rfl rfl fun hl => ?_
  have l1 := hl; clear hl; simp only [List.length_map] at l1
  refine run_fact (t := 1) rfl fun hl => ?_
  have l2 := hl; clear hl; simp only [List.length_map] at l2
  refine run_seq ?_
  refine run_region (q_box (l := 200) .n rfl (.t rfl) rfl rfl rfl rfl <|
      q_assign .n (.c rfl) rfl <|
      q_assign .n (.c rfl) rfl <|
      Lex.nil) ?_
  refine run_seq ?_
  refine run_block ?_
  refine run_seq ?_
  refine run_region (q_ldN_ow .n (.t rfl) rfl (.inr rfl) ag_33 (fun _ => rfl) rfl rfl <|
      q_move .n (.t rfl) rfl <|
      q_call0 (full := false) .n .f en_65 (.cons (.t rfl) (.cons (.t rfl) .nil)) (.cons (.sts rfl) (.cons (.b (.a (.same rfl))) .nil)) (fun hg => c_impl_ValidPermits m_ list) rfl (fun h => Bool.noConfusion h) rfl <|
      q_not .n (.t rfl) rfl <|
      q_assign .n (.t rfl) rfl <|
      Lex.nil) ?_
  refine run_cond (.t rfl) rfl (fun h3 => ?_) (fun h3 => ?_)
  · try simp only [Bool.and_eq_true, Bool.or_eq_true, Bool.not_eq_true', Bool.and_eq_false_iff, Bool.or_eq_false_iff, Bool.not_eq_false', decide_eq_true_eq, decide_eq_false_iff_not, beq_iff_eq, bne_iff_ne, beq_eq_false_iff_ne, bne_eq_false_iff_eq, Bool.true_and, ne_eq, Decidable.not_not, Int.not_lt, Int.not_le, Nat.not_lt, Nat.not_le, strB_nil, strB_nil', strB_nnil, strB_nnil'] at h3
    try have hf0h3 := ValidPermits_imp h3
    try have hf1h3 := ValidPermits_imp h3.1
    try have hf2h3 := ValidPermits_imp h3.2
    try have hf3h3 := ValidPermits_imp h3.1.1
    try have hf4h3 := ValidPermits_imp h3.1.2
    try have hf5h3 := ValidPermits_imp h3.2.1
    try have hf6h3 := ValidPermits_imp h3.2.2
    try have hf7h3 := ValidPermits_len h3
    try have hf8h3 := ValidPermits_len h3.1
    try have hf9h3 := ValidPermits_len h3.2
    try have hf10h3 := ValidPermits_len h3.1.1
    try have hf11h3 := ValidPermits_len h3.1.2
    try have hf12h3 := ValidPermits_len h3.2.1
    try have hf13h3 := ValidPermits_len h3.2.2
    refine run_seq ?_
    refine run_region (q_assign .n (.c rfl) rfl <|
        q_assign .n (.c rfl) rfl <|
        Lex.nil) ?_
    refine run_sub (sub_adopt (t := 6) (l := 201) (el := 2) (sz := 1) rfl rfl) ?_
    exact run_ret [(100, 201)] (.cons (.t rfl rfl) (.cons (.t rfl rfl) .nil)) (by first | rfl | (simp only [put_len]; rfl)) ⟨rfl, trivial⟩ rfl
  · try simp only [Bool.and_eq_true, Bool.or_eq_true, Bool.not_eq_true', Bool.and_eq_false_iff, Bool.or_eq_false_iff, Bool.not_eq_false', decide_eq_true_eq, decide_eq_false_iff_not, beq_iff_eq, bne_iff_ne, beq_eq_false_iff_ne, bne_eq_false_iff_eq, Bool.true_and, ne_eq, Decidable.not_not, Int.not_lt, Int.not_le, Nat.not_lt, Nat.not_le, strB_nil, strB_nil', strB_nnil, strB_nnil'] at h3
    try have hf0h3 := ValidPermits_imp h3
    try have hf1h3 := ValidPermits_imp h3.1
    try have hf2h3 := ValidPermits_imp h3.2
    try have hf3h3 := ValidPermits_imp h3.1.1
    try have hf4h3 := ValidPermits_imp h3.1.2
    try have hf5h3 := ValidPermits_imp h3.2.1
    try have hf6h3 := ValidPermits_imp h3.2.2
    try have hf7h3 := ValidPermits_len h3
    try have hf8h3 := ValidPermits_len h3.1
    try have hf9h3 := ValidPermits_len h3.2
    try have hf10h3 := ValidPermits_len h3.1.1
    try have hf11h3 := ValidPermits_len h3.1.2
    try have hf12h3 := ValidPermits_len h3.2.1
    try have hf13h3 := ValidPermits_len h3.2.2
    refine run_seq ?_
    refine run_region (q_move .n (.t rfl) rfl <|
        q_call0 (full := false) .n .f en_48 (.cons (.t rfl) .nil) (.cons (.b (.a (.same rfl))) .nil) (fun hg => c_impl_budgetValid budget) rfl (fun h => Bool.noConfusion h) rfl <|
        q_not .n (.t rfl) rfl <|
        q_assign .n (.t rfl) rfl <|
        Lex.nil) ?_
    refine run_cond (.t rfl) rfl (fun h4 => ?_) (fun h4 => ?_)
    · try simp only [Bool.and_eq_true, Bool.or_eq_true, Bool.not_eq_true', Bool.and_eq_false_iff, Bool.or_eq_false_iff, Bool.not_eq_false', decide_eq_true_eq, decide_eq_false_iff_not, beq_iff_eq, bne_iff_ne, beq_eq_false_iff_ne, bne_eq_false_iff_eq, Bool.true_and, ne_eq, Decidable.not_not, Int.not_lt, Int.not_le, Nat.not_lt, Nat.not_le, strB_nil, strB_nil', strB_nnil, strB_nnil'] at h4
      try have hf0h4 := budget_imp h4
      try have hf1h4 := budget_imp h4.1
      try have hf2h4 := budget_imp h4.2
      try have hf3h4 := budget_imp h4.1.1
      try have hf4h4 := budget_imp h4.1.2
      try have hf5h4 := budget_imp h4.2.1
      try have hf6h4 := budget_imp h4.2.2
      refine run_seq ?_
      refine run_region (q_assign .n (.c rfl) rfl <|
          q_assign .n (.c rfl) rfl <|
          Lex.nil) ?_
      refine run_sub (sub_adopt (t := 6) (l := 202) (el := 2) (sz := 1) rfl rfl) ?_
      exact run_ret [(100, 202)] (.cons (.t rfl rfl) (.cons (.t rfl rfl) .nil)) (by first | rfl | (simp only [put_len]; rfl)) ⟨rfl, trivial⟩ rfl
    · try simp only [Bool.and_eq_true, Bool.or_eq_true, Bool.not_eq_true', Bool.and_eq_false_iff, Bool.or_eq_false_iff, Bool.not_eq_false', decide_eq_true_eq, decide_eq_false_iff_not, beq_iff_eq, bne_iff_ne, beq_eq_false_iff_ne, bne_eq_false_iff_eq, Bool.true_and, ne_eq, Decidable.not_not, Int.not_lt, Int.not_le, Nat.not_lt, Nat.not_le, strB_nil, strB_nil', strB_nnil, strB_nnil'] at h4
      try have hf0h4 := budget_imp h4
      try have hf1h4 := budget_imp h4.1
      try have hf2h4 := budget_imp h4.2
      try have hf3h4 := budget_imp h4.1.1
      try have hf4h4 := budget_imp h4.1.2
      try have hf5h4 := budget_imp h4.2.1
      try have hf6h4 := budget_imp h4.2.2
      refine run_skip ?_
      refine run_endB ?_
      refine run_seq ?_
      refine run_region (q_ldN_ow .n (.t rfl) rfl (.inr rfl) ag_33 (fun _ => rfl) rfl rfl <|
          q_move .n (.t rfl) rfl <|
          q_move .n (.t rfl) rfl <|
          q_build (us := [.int .i64 m_.Junctions, .sl 7 (m_.Airways.map gAirway.v), .sl 5 (list.map gPermit.v), .int .i64 budget, .nls, .nls, .int .i64 (-1)]) .n (.cons (.t rfl) (.cons (.t rfl) (.cons (.t rfl) (.cons (.c rfl) .nil)))) zv_109 pl_109 rfl rfl rfl <|
          q_alloc (l := 203) .n rfl zv_109 rfl rfl <|
          q_st_boxm [.int .i64 m_.Junctions, .sl 7 (m_.Airways.map gAirway.v), .sl 5 (list.map gPermit.v), .int .i64 budget, .nls, .nls, .int .i64 (-1)] .n rfl (.t rfl) (.t rfl) rfl ts_109 rfl rfl <|
          Lex.nil) ?_
      refine run_seq ?_
      refine run_sub (sub_adoptb (b := 203) (l := 204) (el := 2) (sz := 1) 4 rfl rfl rfl rfl) ?_
      refine run_sub (sub_adoptb (b := 203) (l := 205) (el := 2) (sz := 1) 5 rfl rfl rfl rfl) ?_
      refine run_region (q_callM (full := false) [(0, 203), (14, 204), (15, 205)] [(100, 206), (101, 207)] .n rfl .f en_66 (.cons (.t rfl) (.cons (.c rfl) .nil)) (.cons (.b (.mutp rfl)) (.cons (.b (.a (.same rfl))) .nil)) (c_impl_permitSearch_visit (gpermitSearch.mk m_ list budget ([] : List Int) ([] : List Int) (-1)) 0 (by omega) (by omega) (by omega) (by (simp only [List.length_append, List.length_cons, List.length_nil, List.length_replicate, put_len] at * <;> omega)) (by ((intro y hy; exact absurd hy List.not_mem_nil)))) ⟨rfl, rfl, rfl, trivial⟩ rfl rfl (fun h => Bool.noConfusion h) (fun h => Bool.noConfusion h) rfl <|
          Lex.nil) ?_
      refine run_seq ?_
      refine run_seq ?_
      refine run_region (q_fld_ow .n (.t rfl) fo_109_2 rfl <|
          q_ld1_ow .n (.t rfl) rfl (.inr rfl) (fun _ => rfl) rfl ic_2 rfl <|
          q_int .n (.t rfl) (.c rfl) rfl rfl <|
          Lex.nil) ?_
      refine run_cond (.t rfl) rfl (fun h5 => ?_) (fun h5 => ?_)
      · try simp only [Bool.and_eq_true, Bool.or_eq_true, Bool.not_eq_true', Bool.and_eq_false_iff, Bool.or_eq_false_iff, Bool.not_eq_false', decide_eq_true_eq, decide_eq_false_iff_not, beq_iff_eq, bne_iff_ne, beq_eq_false_iff_ne, bne_eq_false_iff_eq, Bool.true_and, ne_eq, Decidable.not_not, Int.not_lt, Int.not_le, Nat.not_lt, Nat.not_le, strB_nil, strB_nil', strB_nnil, strB_nnil'] at h5
        refine run_seq ?_
        refine run_region (q_assign .n (.c rfl) rfl <|
            q_assign .n (.c rfl) rfl <|
            Lex.nil) ?_
        refine run_sub (sub_adopt (t := 6) (l := 208) (el := 2) (sz := 1) rfl rfl) ?_
        exact run_ret [(100, 208)] (.cons (.t rfl rfl) (.cons (.t rfl rfl) .nil)) (by first | rfl | (simp only [put_len]; rfl)) ⟨rfl, trivial⟩ rfl
      · try simp only [Bool.and_eq_true, Bool.or_eq_true, Bool.not_eq_true', Bool.and_eq_false_iff, Bool.or_eq_false_iff, Bool.not_eq_false', decide_eq_true_eq, decide_eq_false_iff_not, beq_iff_eq, bne_iff_ne, beq_eq_false_iff_ne, bne_eq_false_iff_eq, Bool.true_and, ne_eq, Decidable.not_not, Int.not_lt, Int.not_le, Nat.not_lt, Nat.not_le, strB_nil, strB_nil', strB_nnil, strB_nnil'] at h5
        refine run_skip ?_
        refine run_seq ?_
        refine run_region (q_fld_ow .n (.t rfl) fo_109_4 rfl <|
            q_ld1_ow .n (.t rfl) rfl (.inr rfl) (fun _ => rfl) rfl ic_25 rfl <|
            q_assign .n (.t rfl) rfl <|
            q_assign .n (.c rfl) rfl <|
            Lex.nil) ?_
        exact run_ret [(100, 207)] (.cons (.t rfl rfl) (.cons (.t rfl rfl) .nil)) (by first | rfl | (simp only [put_len]; rfl)) ⟨rfl, trivial⟩ rfl

/-! ### laws_eqPermit -/
theorem c_laws_eqPermit (a : gPermit) (b : gPermit) : Con Try.prog 67 [.st [.str a.Id, .int .i64 a.Kind, .int .i64 a.Airway, .int .i64 a.From, .int .i64 a.Until], .st [.str b.Id, .int .i64 b.Kind, .int .i64 b.Airway, .int .i64 b.From, .int .i64 b.Until]] [] (.bool (m_laws_eqPermit a b)) ([]) := by
  refine con_intro (out := fun r : Bool => ((.bool r : V), ([] : List (Nat × Option O)))) (r := (m_laws_eqPermit a b)) Try.func67 rfl Try.ntmps67 rfl ?_
  refine run_seq ?_
  refine run_region (q_box (l := 200) .n rfl (.t rfl) rfl rfl rfl rfl <|
      q_box (l := 201) .n rfl (.t rfl) rfl rfl rfl rfl <|
      q_assign .n (.c rfl) rfl <|
      Lex.nil) ?_
  refine run_seq ?_
  refine run_seq ?_
  refine run_region (q_fld_ow .n (.t rfl) fo_105_0 rfl <|
      q_ld1_ow .n (.t rfl) rfl (.inr rfl) (fun _ => rfl) rfl ic_9 rfl <|
      q_fld_ow .n (.t rfl) fo_105_0 rfl <|
      q_ld1_ow .n (.t rfl) rfl (.inr rfl) (fun _ => rfl) rfl ic_9 rfl <|
      q_strcmp .n (.t rfl) (.t rfl) rfl rfl <|
      Lex.nil) ?_
  refine run_cond (.t rfl) rfl (fun h1 => ?_) (fun h1 => ?_)
  · try simp only [Bool.and_eq_true, Bool.or_eq_true, Bool.not_eq_true', Bool.and_eq_false_iff, Bool.or_eq_false_iff, Bool.not_eq_false', decide_eq_true_eq, decide_eq_false_iff_not, beq_iff_eq, bne_iff_ne, beq_eq_false_iff_ne, bne_eq_false_iff_eq, Bool.true_and, ne_eq, Decidable.not_not, Int.not_lt, Int.not_le, Nat.not_lt, Nat.not_le, strB_nil, strB_nil', strB_nnil, strB_nnil'] at h1
    refine run_seq ?_
    refine run_region (q_assign .n (.c rfl) rfl <|
        Lex.nil) ?_
    exact run_ret [] (.cons (.t rfl rfl) .nil) rfl trivial rfl
  · try simp only [Bool.and_eq_true, Bool.or_eq_true, Bool.not_eq_true', Bool.and_eq_false_iff, Bool.or_eq_false_iff, Bool.not_eq_false', decide_eq_true_eq, decide_eq_false_iff_not, beq_iff_eq, bne_iff_ne, beq_eq_false_iff_ne, bne_eq_false_iff_eq, Bool.true_and, ne_eq, Decidable.not_not, Int.not_lt, Int.not_le, Nat.not_lt, Nat.not_le, strB_nil, strB_nil', strB_nnil, strB_nnil'] at h1
    refine run_skip ?_
    refine run_seq ?_
    refine run_seq ?_
    refine run_region (q_fld_ow .n (.t rfl) fo_105_1 rfl <|
        q_ld1_ow .n (.t rfl) rfl (.inr rfl) (fun _ => rfl) rfl ic_2 rfl <|
        q_fld_ow .n (.t rfl) fo_105_1 rfl <|
        q_ld1_ow .n (.t rfl) rfl (.inr rfl) (fun _ => rfl) rfl ic_2 rfl <|
        q_int .n (.t rfl) (.t rfl) rfl rfl <|
        Lex.nil) ?_
    refine run_cond (.t rfl) rfl (fun h2 => ?_) (fun h2 => ?_)
    · try simp only [Bool.and_eq_true, Bool.or_eq_true, Bool.not_eq_true', Bool.and_eq_false_iff, Bool.or_eq_false_iff, Bool.not_eq_false', decide_eq_true_eq, decide_eq_false_iff_not, beq_iff_eq, bne_iff_ne, beq_eq_false_iff_ne, bne_eq_false_iff_eq, Bool.true_and, ne_eq, Decidable.not_not, Int.not_lt, Int.not_le, Nat.not_lt, Nat.not_le, strB_nil, strB_nil', strB_nnil, strB_nnil'] at h2
      refine run_seq ?_
      refine run_region (q_assign .n (.c rfl) rfl <|
          Lex.nil) ?_
      exact run_ret [] (.cons (.t rfl rfl) .nil) rfl trivial rfl
    · try simp only [Bool.and_eq_true, Bool.or_eq_true, Bool.not_eq_true', Bool.and_eq_false_iff, Bool.or_eq_false_iff, Bool.not_eq_false', decide_eq_true_eq, decide_eq_false_iff_not, beq_iff_eq, bne_iff_ne, beq_eq_false_iff_ne, bne_eq_false_iff_eq, Bool.true_and, ne_eq, Decidable.not_not, Int.not_lt, Int.not_le, Nat.not_lt, Nat.not_le, strB_nil, strB_nil', strB_nnil, strB_nnil'] at h2
      refine run_skip ?_
      refine run_seq ?_
      refine run_seq ?_
      refine run_region (q_fld_ow .n (.t rfl) fo_105_2 rfl <|
          q_ld1_ow .n (.t rfl) rfl (.inr rfl) (fun _ => rfl) rfl ic_2 rfl <|
          q_fld_ow .n (.t rfl) fo_105_2 rfl <|
          q_ld1_ow .n (.t rfl) rfl (.inr rfl) (fun _ => rfl) rfl ic_2 rfl <|
          q_int .n (.t rfl) (.t rfl) rfl rfl <|
          Lex.nil) ?_
      refine run_cond (.t rfl) rfl (fun h3 => ?_) (fun h3 => ?_)
      · try simp only [Bool.and_eq_true, Bool.or_eq_true, Bool.not_eq_true', Bool.and_eq_false_iff, Bool.or_eq_false_iff, Bool.not_eq_false', decide_eq_true_eq, decide_eq_false_iff_not, beq_iff_eq, bne_iff_ne, beq_eq_false_iff_ne, bne_eq_false_iff_eq, Bool.true_and, ne_eq, Decidable.not_not, Int.not_lt, Int.not_le, Nat.not_lt, Nat.not_le, strB_nil, strB_nil', strB_nnil, strB_nnil'] at h3
        refine run_seq ?_
        refine run_region (q_assign .n (.c rfl) rfl <|
            Lex.nil) ?_
        exact run_ret [] (.cons (.t rfl rfl) .nil) rfl trivial rfl
      · try simp only [Bool.and_eq_true, Bool.or_eq_true, Bool.not_eq_true', Bool.and_eq_false_iff, Bool.or_eq_false_iff, Bool.not_eq_false', decide_eq_true_eq, decide_eq_false_iff_not, beq_iff_eq, bne_iff_ne, beq_eq_false_iff_ne, bne_eq_false_iff_eq, Bool.true_and, ne_eq, Decidable.not_not, Int.not_lt, Int.not_le, Nat.not_lt, Nat.not_le, strB_nil, strB_nil', strB_nnil, strB_nnil'] at h3
        refine run_skip ?_
        refine run_seq ?_
        refine run_seq ?_
        refine run_region (q_fld_ow .n (.t rfl) fo_105_3 rfl <|
            q_ld1_ow .n (.t rfl) rfl (.inr rfl) (fun _ => rfl) rfl ic_2 rfl <|
            q_fld_ow .n (.t rfl) fo_105_3 rfl <|
            q_ld1_ow .n (.t rfl) rfl (.inr rfl) (fun _ => rfl) rfl ic_2 rfl <|
            q_int .n (.t rfl) (.t rfl) rfl rfl <|
            Lex.nil) ?_
        refine run_cond (.t rfl) rfl (fun h4 => ?_) (fun h4 => ?_)
        · try simp only [Bool.and_eq_true, Bool.or_eq_true, Bool.not_eq_true', Bool.and_eq_false_iff, Bool.or_eq_false_iff, Bool.not_eq_false', decide_eq_true_eq, decide_eq_false_iff_not, beq_iff_eq, bne_iff_ne, beq_eq_false_iff_ne, bne_eq_false_iff_eq, Bool.true_and, ne_eq, Decidable.not_not, Int.not_lt, Int.not_le, Nat.not_lt, Nat.not_le, strB_nil, strB_nil', strB_nnil, strB_nnil'] at h4
          refine run_seq ?_
          refine run_region (q_assign .n (.c rfl) rfl <|
              Lex.nil) ?_
          exact run_ret [] (.cons (.t rfl rfl) .nil) rfl trivial rfl
        · try simp only [Bool.and_eq_true, Bool.or_eq_true, Bool.not_eq_true', Bool.and_eq_false_iff, Bool.or_eq_false_iff, Bool.not_eq_false', decide_eq_true_eq, decide_eq_false_iff_not, beq_iff_eq, bne_iff_ne, beq_eq_false_iff_ne, bne_eq_false_iff_eq, Bool.true_and, ne_eq, Decidable.not_not, Int.not_lt, Int.not_le, Nat.not_lt, Nat.not_le, strB_nil, strB_nil', strB_nnil, strB_nnil'] at h4
          refine run_skip ?_
          refine run_seq ?_
          refine run_seq ?_
          refine run_region (q_fld_ow .n (.t rfl) fo_105_4 rfl <|
              q_ld1_ow .n (.t rfl) rfl (.inr rfl) (fun _ => rfl) rfl ic_2 rfl <|
              q_fld_ow .n (.t rfl) fo_105_4 rfl <|
              q_ld1_ow .n (.t rfl) rfl (.inr rfl) (fun _ => rfl) rfl ic_2 rfl <|
              q_int .n (.t rfl) (.t rfl) rfl rfl <|
              Lex.nil) ?_
          refine run_cond (.t rfl) rfl (fun h5 => ?_) (fun h5 => ?_)
          · try simp only [Bool.and_eq_true, Bool.or_eq_true, Bool.not_eq_true', Bool.and_eq_false_iff, Bool.or_eq_false_iff, Bool.not_eq_false', decide_eq_true_eq, decide_eq_false_iff_not, beq_iff_eq, bne_iff_ne, beq_eq_false_iff_ne, bne_eq_false_iff_eq, Bool.true_and, ne_eq, Decidable.not_not, Int.not_lt, Int.not_le, Nat.not_lt, Nat.not_le, strB_nil, strB_nil', strB_nnil, strB_nnil'] at h5
            refine run_seq ?_
            refine run_region (q_assign .n (.c rfl) rfl <|
                Lex.nil) ?_
            exact run_ret [] (.cons (.t rfl rfl) .nil) rfl trivial rfl
          · try simp only [Bool.and_eq_true, Bool.or_eq_true, Bool.not_eq_true', Bool.and_eq_false_iff, Bool.or_eq_false_iff, Bool.not_eq_false', decide_eq_true_eq, decide_eq_false_iff_not, beq_iff_eq, bne_iff_ne, beq_eq_false_iff_ne, bne_eq_false_iff_eq, Bool.true_and, ne_eq, Decidable.not_not, Int.not_lt, Int.not_le, Nat.not_lt, Nat.not_le, strB_nil, strB_nil', strB_nnil, strB_nnil'] at h5
            refine run_skip ?_
            refine run_seq ?_
            refine run_region (q_assign .n (.c rfl) rfl <|
                Lex.nil) ?_
            exact run_ret [] (.cons (.t rfl rfl) .nil) rfl trivial rfl

/-! ### laws_eqPermitS -/
theorem c_laws_eqPermitS (a : List gPermit) (b : List gPermit) : Con Try.prog 27 [.sl 5 (a.map gPermit.v), .sl 5 (b.map gPermit.v)] [] (.bool (m_laws_eqPermitS a b)) ([]) := by
  refine con_intro (out := fun r : Bool => ((.bool r : V), ([] : List (Nat × Option O)))) (r := (m_laws_eqPermitS a b)) Try.func27 rfl Try.ntmps27 rfl ?_
  refine run_fact (t := 0) rfl fun hl => ?_
  have l1 := hl; clear hl; simp only [List.length_map] at l1
  refine run_fact (t := 1) rfl fun hl => ?_
  have l2 := hl; clear hl; simp only [List.length_map] at l2
  refine run_seq ?_
  refine run_region (q_assign .n (.c rfl) rfl <|
      Lex.nil) ?_
  refine run_seq ?_
  refine run_seq ?_
  refine run_region (q_move .n (.t rfl) rfl <|
      q_len .n (.t rfl) rfl len_map ss_50 rfl <|
      q_move .n (.t rfl) rfl <|
      q_len .n (.t rfl) rfl len_map ss_50 rfl <|
      q_int .n (.t rfl) (.t rfl) rfl rfl <|
      Lex.nil) ?_
  refine run_cond (.t rfl) rfl (fun h3 => ?_) (fun h3 => ?_)
  · try simp only [Bool.and_eq_true, Bool.or_eq_true, Bool.not_eq_true', Bool.and_eq_false_iff, Bool.or_eq_false_iff, Bool.not_eq_false', decide_eq_true_eq, decide_eq_false_iff_not, beq_iff_eq, bne_iff_ne, beq_eq_false_iff_ne, bne_eq_false_iff_eq, Bool.true_and, ne_eq, Decidable.not_not, Int.not_lt, Int.not_le, Nat.not_lt, Nat.not_le, strB_nil, strB_nil', strB_nnil, strB_nnil'] at h3
    refine run_seq ?_
    refine run_region (q_assign .n (.c rfl) rfl <|
        Lex.nil) ?_
    exact run_ret [] (.cons (.t rfl rfl) .nil) rfl trivial rfl
  · try simp only [Bool.and_eq_true, Bool.or_eq_true, Bool.not_eq_true', Bool.and_eq_false_iff, Bool.or_eq_false_iff, Bool.not_eq_false', decide_eq_true_eq, decide_eq_false_iff_not, beq_iff_eq, bne_iff_ne, beq_eq_false_iff_ne, bne_eq_false_iff_eq, Bool.true_and, ne_eq, Decidable.not_not, Int.not_lt, Int.not_le, Nat.not_lt, Nat.not_le, strB_nil, strB_nil', strB_nnil, strB_nnil'] at h3
    refine run_skip ?_
    refine run_seq ?_
    refine run_seq ?_
    refine run_region (q_assign .n (.c rfl) rfl <|
        Lex.nil) ?_
    refine run_block ?_
    refine run_LOOP (m_laws_eqPermitS_b1 a b) _ _ _ rfl (fun (x1 : Int) => 0 ≤ x1 ∧ x1 ≤ (a.length : Int)) (fun x1 => 0 ≤ x1 ∧ x1 ≤ (a.length : Int) ∧ (a.length : Int) ≤ x1) (fun x1 => ((a.length : Int) - x1 : Int).toNat) (fun x1 => ⟨[(0, some (true, .sl 5 (a.map gPermit.v))), (1, some (true, .sl 5 (b.map gPermit.v))), (5, some (true, .int .i64 x1))], []⟩) (fun x1 => ⟨[], []⟩) ⟨by omega, by omega⟩ (by omega) (sub_of [] ⟨rfl, rfl, rfl, trivial⟩ trivial rfl) ?_ ?_
    · intro x1 i8
      obtain ⟨e9, e10, e11⟩ := i8
      try dsimp only at *
      refine run_seq ?_
      refine run_region (q_assign .n (.c rfl) rfl <|
          Lex.nil) ?_
      exact run_ret [] (.cons (.t rfl rfl) .nil) rfl trivial rfl
    · intro rec1 k1 hk4 x1 i5
      obtain ⟨e12, e13⟩ := i5
      try dsimp only at *
      refine run_seq ?_
      refine run_seq ?_
      refine run_region (q_move .n (.t rfl) rfl <|
          q_move .n (.t rfl) rfl <|
          q_len .n (.t rfl) rfl len_map ss_50 rfl <|
          q_int .n (.t rfl) (.t rfl) rfl rfl <|
          Lex.nil) ?_
      refine run_cond (.t rfl) rfl (fun h6 => ?_) (fun h6 => ?_)
      · try simp only [Bool.and_eq_true, Bool.or_eq_true, Bool.not_eq_true', Bool.and_eq_false_iff, Bool.or_eq_false_iff, Bool.not_eq_false', decide_eq_true_eq, decide_eq_false_iff_not, beq_iff_eq, bne_iff_ne, beq_eq_false_iff_ne, bne_eq_false_iff_eq, Bool.true_and, ne_eq, Decidable.not_not, Int.not_lt, Int.not_le, Nat.not_lt, Nat.not_le, strB_nil, strB_nil', strB_nnil, strB_nnil'] at h6
        refine run_skip ?_
        refine run_seq ?_
        refine run_block ?_
        refine run_seq ?_
        refine run_draw fmo (q_move .n (.t rfl) rfl <|
            q_move .n (.t rfl) rfl <|
            q_idx_rm .n (.t rfl) (.t rfl) sl_50 (fun _ => by omega) rfl <|
            q_ldN_ro .n (.t rfl) ag_105 rfl rfl rfl <|
            q_move .n (.t rfl) rfl <|
            q_move .n (.t rfl) rfl <|
            q_idx_rm .n (.t rfl) (.t rfl) sl_50 (fun _ => by omega) rfl <|
            q_ldN_ro .n (.t rfl) ag_105 rfl rfl rfl <|
            q_call0 (full := false) .n .f en_67 (.cons (.t rfl) (.cons (.t rfl) .nil)) (.cons (.sts rfl) (.cons (.sts rfl) .nil)) (fun hg => c_laws_eqPermit (at' a x1) (at' b x1)) rfl (fun h => Bool.noConfusion h) rfl <|
            q_not .n (.t rfl) rfl <|
            Lex.nil) (by kernel_rfl) ?_
        refine run_cond (.t rfl) rfl (fun h7 => ?_) (fun h7 => ?_)
        · try simp only [Bool.and_eq_true, Bool.or_eq_true, Bool.not_eq_true', Bool.and_eq_false_iff, Bool.or_eq_false_iff, Bool.not_eq_false', decide_eq_true_eq, decide_eq_false_iff_not, beq_iff_eq, bne_iff_ne, beq_eq_false_iff_ne, bne_eq_false_iff_eq, Bool.true_and, ne_eq, Decidable.not_not, Int.not_lt, Int.not_le, Nat.not_lt, Nat.not_le, strB_nil, strB_nil', strB_nnil, strB_nnil'] at h7
          refine run_seq ?_
          refine run_region (q_assign .n (.c rfl) rfl <|
              Lex.nil) ?_
          exact run_ret [] (.cons (.t rfl rfl) .nil) rfl trivial rfl
        · try simp only [Bool.and_eq_true, Bool.or_eq_true, Bool.not_eq_true', Bool.and_eq_false_iff, Bool.or_eq_false_iff, Bool.not_eq_false', decide_eq_true_eq, decide_eq_false_iff_not, beq_iff_eq, bne_iff_ne, beq_eq_false_iff_ne, bne_eq_false_iff_eq, Bool.true_and, ne_eq, Decidable.not_not, Int.not_lt, Int.not_le, Nat.not_lt, Nat.not_le, strB_nil, strB_nil', strB_nnil, strB_nnil'] at h7
          refine run_skip ?_
          refine run_endB ?_
          refine run_region (q_move .n (.t rfl) rfl <|
              q_add .n (.t rfl) (.c rfl) (fun _ => by omega) rfl <|
              q_assign .n (.t rfl) rfl <|
              Lex.nil) ?_
          exact run_again (x1 + 1) ⟨by omega, by omega⟩ (by omega) (sub_of [] ⟨rfl, rfl, rfl, trivial⟩ trivial rfl)
      · try simp only [Bool.and_eq_true, Bool.or_eq_true, Bool.not_eq_true', Bool.and_eq_false_iff, Bool.or_eq_false_iff, Bool.not_eq_false', decide_eq_true_eq, decide_eq_false_iff_not, beq_iff_eq, bne_iff_ne, beq_eq_false_iff_ne, bne_eq_false_iff_eq, Bool.true_and, ne_eq, Decidable.not_not, Int.not_lt, Int.not_le, Nat.not_lt, Nat.not_le, strB_nil, strB_nil', strB_nnil, strB_nnil'] at h6
        refine run_exit rfl ?_
        exact run_cont hk4 x1 ⟨by omega, by omega, by omega⟩ (sub_of [] trivial trivial rfl)

/-! ### laws_markPermitS -/
theorem c_laws_markPermitS (a : List gPermit) (k_ : Int) (hp1 : k_ ≤ 9223372036854775807) : Con Try.prog 28 [.os 0 a.length, .int .i64 k_] [(0, some (.row 105 5 (a.map gPermit.v)))] (.int .i64 (m_laws_markPermitS a k_).1) ([(0, some (.row 105 5 ((m_laws_markPermitS a k_).2.map gPermit.v)))]) := by
  refine con_intro (out := fun r : Int × (List gPermit) => ((.int .i64 r.1 : V), ([(0, some (.row 105 5 (r.2.map gPermit.v)))] : List (Nat × Option O)))) (r := (m_laws_markPermitS a k_)) Try.func28 rfl Try.ntmps28 rfl ?_
  refine run_factH (l := 0) rfl fun hl => ?_
  have l1 := hl; clear hl; simp only [List.length_map] at l1
  refine run_seq ?_
  refine run_region (q_assign .n (.c rfl) rfl <|
      Lex.nil) ?_
  refine run_seq ?_
  refine run_seq ?_
  refine run_region (q_assign .n (.c rfl) rfl <|
      Lex.nil) ?_
  refine run_block ?_
  refine run_LOOP (m_laws_markPermitS_b1 a k_) _ _ _ rfl (fun (x1 : (List gPermit) × Int × Int) => 0 ≤ x1.2.2 ∧ x1.1.length = a.length ∧ x1.2.1 ≤ 9223372036854775807) (fun x1 => 0 ≤ x1.2.2 ∧ x1.1.length = a.length ∧ x1.2.1 ≤ 9223372036854775807 ∧ (x1.1.length : Int) ≤ x1.2.2) (fun x1 => ((x1.1.length : Int) - x1.2.2 : Int).toNat) (fun x1 => ⟨[(0, some (true, .os 0 x1.1.length)), (1, some (true, .int .i64 x1.2.1)), (5, some (true, .int .i64 x1.2.2))], [(0, some (.row 105 5 (x1.1.map gPermit.v)))]⟩) (fun x1 => ⟨[(1, some (true, .int .i64 x1.2.1))], [(0, some (.row 105 5 (x1.1.map gPermit.v)))]⟩) ⟨by (simp only [List.length_append, List.length_cons, List.length_nil, List.length_replicate, put_len] at * <;> omega), by (simp only [List.length_append, List.length_cons, List.length_nil, List.length_replicate, put_len] at * <;> omega), by omega⟩ (by (simp only [List.length_append, List.length_cons, List.length_nil, List.length_replicate, put_len] at * <;> omega)) (sub_of [] ⟨rfl, rfl, rfl, trivial⟩ ⟨rfl, trivial⟩ rfl) ?_ ?_
  · intro x1 i5
    obtain ⟨e6, e7, e8, e9⟩ := i5
    try dsimp only at *
    refine run_seq ?_
    refine run_region (q_move .n (.t rfl) rfl <|
        q_assign .n (.t rfl) rfl <|
        Lex.nil) ?_
    exact run_ret [] (.cons (.t rfl rfl) .nil) rfl ⟨rfl, trivial⟩ rfl
  · intro rec1 k1 hk2 x1 i3
    obtain ⟨e10, e11, e12⟩ := i3
    try dsimp only at *
    refine run_seq ?_
    refine run_seq ?_
    refine run_region (q_move .n (.t rfl) rfl <|
        q_move .n (.t rfl) rfl <|
        q_len .n (.t rfl) rfl rfl ss_50 rfl <|
        q_int .n (.t rfl) (.t rfl) rfl rfl <|
        Lex.nil) ?_
    refine run_cond (.t rfl) rfl (fun h4 => ?_) (fun h4 => ?_)
    · try simp only [Bool.and_eq_true, Bool.or_eq_true, Bool.not_eq_true', Bool.and_eq_false_iff, Bool.or_eq_false_iff, Bool.not_eq_false', decide_eq_true_eq, decide_eq_false_iff_not, beq_iff_eq, bne_iff_ne, beq_eq_false_iff_ne, bne_eq_false_iff_eq, Bool.true_and, ne_eq, Decidable.not_not, Int.not_lt, Int.not_le, Nat.not_lt, Nat.not_le, strB_nil, strB_nil', strB_nnil, strB_nnil'] at h4
      refine run_skip ?_
      refine run_seq ?_
      refine run_block ?_
      refine run_seq ?_
      refine run_region (q_move .n (.t rfl) rfl <|
          q_move .n (.t rfl) rfl <|
          q_move .n (.t rfl) rfl <|
          q_call0 (full := false) .n .f en_53 (.cons (.t rfl) .nil) (.cons (.b (.a (.same rfl))) .nil) (fun hg => c_laws_markText x1.2.1 (by omega)) rfl (fun h => Bool.noConfusion h) rfl <|
          q_idx_ow .n (.t rfl) (.t rfl) sl_50 (fun _ => by omega) rfl <|
          q_fld_ow .n (.t rfl) fo_105_0 rfl <|
          q_st_rowm (gPermit.mk (m_laws_markText x1.2.1) (at' x1.1 x1.2.2).Kind (at' x1.1 x1.2.2).Airway (at' x1.1 x1.2.2).From (at' x1.1 x1.2.2).Until) .n rfl (.t rfl) (.t rfl) rfl ts_9 (by omega) rfl rfl <|
          Lex.nil) ?_
      refine run_seq ?_
      refine run_region (q_move .n (.t rfl) rfl <|
          q_int .n (.t rfl) (.c rfl) rfl rfl <|
          q_assign .n (.t rfl) rfl <|
          Lex.nil) ?_
      refine run_seq ?_
      refine run_region (q_move .n (.t rfl) rfl <|
          q_move .n (.t rfl) rfl <|
          q_move .n (.t rfl) rfl <|
          q_idx_ow .n (.t rfl) (.t rfl) sl_50 (fun _ => by omega) rfl <|
          q_fld_ow .n (.t rfl) fo_105_1 rfl <|
          q_st_rowp (gPermit.mk (m_laws_markText x1.2.1) (at' x1.1 x1.2.2).Kind (at' x1.1 x1.2.2).Airway (at' x1.1 x1.2.2).From (at' x1.1 x1.2.2).Until) (gPermit.mk (m_laws_markText x1.2.1) (IntKind.wrap .i64 (x1.2.1 + 1)) (at' x1.1 x1.2.2).Airway (at' x1.1 x1.2.2).From (at' x1.1 x1.2.2).Until) .n rfl (.t rfl) (.t rfl) rfl ts_2 (by omega) rfl rfl <|
          Lex.nil) ?_
      refine run_seq ?_
      refine run_region (q_move .n (.t rfl) rfl <|
          q_int .n (.t rfl) (.c rfl) rfl rfl <|
          q_assign .n (.t rfl) rfl <|
          Lex.nil) ?_
      refine run_seq ?_
      refine run_region (q_move .n (.t rfl) rfl <|
          q_move .n (.t rfl) rfl <|
          q_move .n (.t rfl) rfl <|
          q_idx_ow .n (.t rfl) (.t rfl) sl_50 (fun _ => by omega) rfl <|
          q_fld_ow .n (.t rfl) fo_105_2 rfl <|
          q_st_rowp (gPermit.mk (m_laws_markText x1.2.1) (IntKind.wrap .i64 (x1.2.1 + 1)) (at' x1.1 x1.2.2).Airway (at' x1.1 x1.2.2).From (at' x1.1 x1.2.2).Until) (gPermit.mk (m_laws_markText x1.2.1) (IntKind.wrap .i64 (x1.2.1 + 1)) (IntKind.wrap .i64 ((IntKind.wrap .i64 (x1.2.1 + 1)) + 1)) (at' x1.1 x1.2.2).From (at' x1.1 x1.2.2).Until) .n rfl (.t rfl) (.t rfl) rfl ts_2 (by omega) rfl rfl <|
          Lex.nil) ?_
      refine run_seq ?_
      refine run_region (q_move .n (.t rfl) rfl <|
          q_int .n (.t rfl) (.c rfl) rfl rfl <|
          q_assign .n (.t rfl) rfl <|
          Lex.nil) ?_
      refine run_seq ?_
      refine run_region (q_move .n (.t rfl) rfl <|
          q_move .n (.t rfl) rfl <|
          q_move .n (.t rfl) rfl <|
          q_idx_ow .n (.t rfl) (.t rfl) sl_50 (fun _ => by omega) rfl <|
          q_fld_ow .n (.t rfl) fo_105_3 rfl <|
          q_st_rowp (gPermit.mk (m_laws_markText x1.2.1) (IntKind.wrap .i64 (x1.2.1 + 1)) (IntKind.wrap .i64 ((IntKind.wrap .i64 (x1.2.1 + 1)) + 1)) (at' x1.1 x1.2.2).From (at' x1.1 x1.2.2).Until) (gPermit.mk (m_laws_markText x1.2.1) (IntKind.wrap .i64 (x1.2.1 + 1)) (IntKind.wrap .i64 ((IntKind.wrap .i64 (x1.2.1 + 1)) + 1)) (IntKind.wrap .i64 ((IntKind.wrap .i64 ((IntKind.wrap .i64 (x1.2.1 + 1)) + 1)) + 1)) (at' x1.1 x1.2.2).Until) .n rfl (.t rfl) (.t rfl) rfl ts_2 (by omega) rfl rfl <|
          Lex.nil) ?_
      refine run_seq ?_
      refine run_region (q_move .n (.t rfl) rfl <|
          q_int .n (.t rfl) (.c rfl) rfl rfl <|
          q_assign .n (.t rfl) rfl <|
          Lex.nil) ?_
      refine run_seq ?_
      refine run_region (q_move .n (.t rfl) rfl <|
          q_move .n (.t rfl) rfl <|
          q_move .n (.t rfl) rfl <|
          q_idx_ow .n (.t rfl) (.t rfl) sl_50 (fun _ => by omega) rfl <|
          q_fld_ow .n (.t rfl) fo_105_4 rfl <|
          q_st_rowp (gPermit.mk (m_laws_markText x1.2.1) (IntKind.wrap .i64 (x1.2.1 + 1)) (IntKind.wrap .i64 ((IntKind.wrap .i64 (x1.2.1 + 1)) + 1)) (IntKind.wrap .i64 ((IntKind.wrap .i64 ((IntKind.wrap .i64 (x1.2.1 + 1)) + 1)) + 1)) (at' x1.1 x1.2.2).Until) (gPermit.mk (m_laws_markText x1.2.1) (IntKind.wrap .i64 (x1.2.1 + 1)) (IntKind.wrap .i64 ((IntKind.wrap .i64 (x1.2.1 + 1)) + 1)) (IntKind.wrap .i64 ((IntKind.wrap .i64 ((IntKind.wrap .i64 (x1.2.1 + 1)) + 1)) + 1)) (IntKind.wrap .i64 ((IntKind.wrap .i64 ((IntKind.wrap .i64 ((IntKind.wrap .i64 (x1.2.1 + 1)) + 1)) + 1)) + 1))) .n rfl (.t rfl) (.t rfl) rfl ts_2 (by omega) rfl rfl <|
          Lex.nil) ?_
      refine run_region (q_move .n (.t rfl) rfl <|
          q_int .n (.t rfl) (.c rfl) rfl rfl <|
          q_assign .n (.t rfl) rfl <|
          Lex.nil) ?_
      refine run_endB ?_
      refine run_region (q_move .n (.t rfl) rfl <|
          q_add .n (.t rfl) (.c rfl) (fun _ => by omega) rfl <|
          q_assign .n (.t rfl) rfl <|
          Lex.nil) ?_
      exact run_again (put' x1.1 x1.2.2 (gPermit.mk (m_laws_markText x1.2.1) (IntKind.wrap .i64 (x1.2.1 + 1)) (IntKind.wrap .i64 ((IntKind.wrap .i64 (x1.2.1 + 1)) + 1)) (IntKind.wrap .i64 ((IntKind.wrap .i64 ((IntKind.wrap .i64 (x1.2.1 + 1)) + 1)) + 1)) (IntKind.wrap .i64 ((IntKind.wrap .i64 ((IntKind.wrap .i64 ((IntKind.wrap .i64 (x1.2.1 + 1)) + 1)) + 1)) + 1))), IntKind.wrap .i64 ((IntKind.wrap .i64 ((IntKind.wrap .i64 ((IntKind.wrap .i64 ((IntKind.wrap .i64 (x1.2.1 + 1)) + 1)) + 1)) + 1)) + 1), x1.2.2 + 1) ⟨by (simp only [List.length_append, List.length_cons, List.length_nil, List.length_replicate, put_len] at * <;> omega), by (simp only [List.length_append, List.length_cons, List.length_nil, List.length_replicate, put_len] at * <;> omega), by (exact wr64_le)⟩ (by (simp only [List.length_append, List.length_cons, List.length_nil, List.length_replicate, put_len] at * <;> omega)) (sub_of [] ⟨os_len rfl (by first | (simp only [put_len]; done) | (first | omega | assumption | (simp only [List.length_append, List.length_cons, List.length_nil, List.length_replicate, put_len] at * <;> omega) | ((exact wr64_le); done))), rfl, rfl, trivial⟩ ⟨rfl, trivial⟩ rfl)
    · try simp only [Bool.and_eq_true, Bool.or_eq_true, Bool.not_eq_true', Bool.and_eq_false_iff, Bool.or_eq_false_iff, Bool.not_eq_false', decide_eq_true_eq, decide_eq_false_iff_not, beq_iff_eq, bne_iff_ne, beq_eq_false_iff_ne, bne_eq_false_iff_eq, Bool.true_and, ne_eq, Decidable.not_not, Int.not_lt, Int.not_le, Nat.not_lt, Nat.not_le, strB_nil, strB_nil', strB_nnil, strB_nnil'] at h4
      refine run_exit rfl ?_
      exact run_cont hk2 (x1.1, x1.2.1, x1.2.2) ⟨by omega, by omega, by omega, by omega⟩ (sub_of [] ⟨rfl, trivial⟩ ⟨rfl, trivial⟩ rfl)


end Go.Proofs.Ytchjibndocnnhaa
