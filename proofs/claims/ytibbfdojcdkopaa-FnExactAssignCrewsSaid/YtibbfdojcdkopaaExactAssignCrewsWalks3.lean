/-
  THE WALKS: each Go function computes its model. Conditions: as each theorem states them (hp1, hp2 ..).
-/
import Derived.Test.YtibbfdojcdkopaaExactAssignCrewsWalks2
set_option linter.unusedVariables false
set_option linter.unusedSimpArgs false
set_option linter.unusedSectionVars false
set_option linter.unnecessarySimpa false
namespace Go.Proofs.Ytibbfdojcdkopaa
open Go Go.RowKit Go.Proofs Go.Proofs.Ytibbfdojcdkopaa.E
/-! ### impl_ValidCrews -/
theorem c_impl_ValidCrews (m_ : gMine) (list : List gCrew) : Con Try.prog 57 [.st [.int .i64 m_.Junctions, .sl 7 (m_.Airways.map gAirway.v)], .sl 3 (list.map gCrew.v)] [] (.bool (m_impl_ValidCrews m_ list)) ([]) := by
  refine con_intro (out := fun r : Bool => ((.bool r : V), ([] : List (Nat × Option O)))) (r := (m_impl_ValidCrews m_ list)) Try.func57 rfl Try.ntmps57 rfl ?_
  refine run_factS (t := 0) 1 rfl rfl fun hl => ?_
  have l1 := hl; clear hl; simp only [List.length_map] at l1
  refine run_fact (t := 1) rfl fun hl => ?_
  have l2 := hl; clear hl; simp only [List.length_map] at l2
  refine run_seq ?_
  refine run_region (q_box (l := 200) .n rfl (.t rfl) rfl rfl rfl rfl <| q_assign .n (.c rfl) rfl <| Lex.nil) ?_
  refine run_seq ?_
  refine run_seq ?_
  refine run_region (q_ldN_ow .n (.t rfl) rfl (.inr rfl) ag_35 (fun _ => rfl) rfl rfl <| q_call0 (full := false) .n .f en_60 (.cons (.t rfl) .nil) (.cons (.sts rfl) .nil) (fun hg => c_impl_ValidMine m_) rfl (fun h => Bool.noConfusion h) rfl <| q_not .n (.t rfl) rfl <| q_move .n (.t rfl) rfl <| q_move (.f rfl rfl) (.t rfl) rfl <| q_len (.f rfl rfl) (.u rfl id) rfl len_map ss_38 rfl <| q_int (.f rfl rfl) (.u rfl id) (.c rfl) rfl rfl <| q_or .n (.t rfl) (.u rfl id) rfl <| Lex.nil) ?_
  refine run_cond (.t rfl) rfl (fun h3 => ?_) (fun h3 => ?_)
  · try simp only [Bool.and_eq_true, Bool.or_eq_true, Bool.not_eq_true', Bool.and_eq_false_iff, Bool.or_eq_false_iff, Bool.not_eq_false', decide_eq_true_eq, decide_eq_false_iff_not, beq_iff_eq, bne_iff_ne, beq_eq_false_iff_ne, bne_eq_false_iff_eq, Bool.true_and, ne_eq, Decidable.not_not, Int.not_lt, Int.not_le, Nat.not_lt, Nat.not_le, strB_nil, strB_nil', strB_nnil, strB_nnil'] at h3
    try have hf0h3 := ValidMine_imp h3
    try have hf1h3 := ValidMine_imp h3.1
    try have hf2h3 := ValidMine_imp h3.2
    try have hf3h3 := ValidMine_imp h3.1.1
    try have hf4h3 := ValidMine_imp h3.1.2
    try have hf5h3 := ValidMine_imp h3.2.1
    try have hf6h3 := ValidMine_imp h3.2.2
    refine run_seq ?_
    refine run_region (q_assign .n (.c rfl) rfl <| Lex.nil) ?_
    exact run_ret [] (.cons (.t rfl rfl) .nil) rfl trivial rfl
  · try simp only [Bool.and_eq_true, Bool.or_eq_true, Bool.not_eq_true', Bool.and_eq_false_iff, Bool.or_eq_false_iff, Bool.not_eq_false', decide_eq_true_eq, decide_eq_false_iff_not, beq_iff_eq, bne_iff_ne, beq_eq_false_iff_ne, bne_eq_false_iff_eq, Bool.true_and, ne_eq, Decidable.not_not, Int.not_lt, Int.not_le, Nat.not_lt, Nat.not_le, strB_nil, strB_nil', strB_nnil, strB_nnil'] at h3
    try have hf0h3 := ValidMine_imp h3
    try have hf1h3 := ValidMine_imp h3.1
    try have hf2h3 := ValidMine_imp h3.2
    try have hf3h3 := ValidMine_imp h3.1.1
    try have hf4h3 := ValidMine_imp h3.1.2
    try have hf5h3 := ValidMine_imp h3.2.1
    try have hf6h3 := ValidMine_imp h3.2.2
    refine run_skip ?_
    refine run_seq ?_
    refine run_seq ?_
    refine run_region (q_move .n (.t rfl) rfl <| q_len .n (.t rfl) rfl len_map ss_38 rfl <| q_move .n (.c rfl) rfl <| Lex.nil) ?_
    refine run_block ?_
    refine run_LOOP (m_impl_ValidCrews_b1 m_ list) _ _ _ rfl (fun (x1 : Int) => 0 ≤ x1 ∧ x1 ≤ (list.length : Int)) (fun x1 => 0 ≤ x1 ∧ x1 ≤ (list.length : Int) ∧ (list.length : Int) ≤ x1) (fun x1 => ((list.length : Int) - x1 : Int).toNat) (fun x1 => ⟨[(1, some (true, .sl 3 (list.map gCrew.v))), (2, some (true, .op 200 0 0 0)), (15, some (true, .sl 3 (list.map gCrew.v))), (16, some (true, .int .i64 (list.length : Int))), (17, some (true, .int .i64 x1))], [(200, some (.box 35 [.int .i64 m_.Junctions, .sl 7 (m_.Airways.map gAirway.v)]))]⟩) (fun x1 => ⟨[], []⟩) ⟨by omega, by omega⟩ (by omega) (sub_of [] ⟨rfl, rfl, rfl, rfl, rfl, trivial⟩ ⟨rfl, trivial⟩ rfl) ?_ ?_
    · intro x1 i8
      obtain ⟨e9, e10, e11⟩ := i8
      try dsimp only at *
      refine run_seq ?_
      refine run_region (q_assign .n (.c rfl) rfl <| Lex.nil) ?_
      exact run_ret [] (.cons (.t rfl rfl) .nil) rfl trivial rfl
    · intro rec1 k1 hk4 x1 i5
      obtain ⟨e12, e13⟩ := i5
      try dsimp only at *
      refine run_seq ?_
      refine run_region (q_int .n (.t rfl) (.t rfl) rfl rfl <| Lex.nil) ?_
      refine run_seq ?_
      refine run_cond (.t rfl) rfl (fun h6 => ?_) (fun h6 => ?_)
      · try simp only [Bool.and_eq_true, Bool.or_eq_true, Bool.not_eq_true', Bool.and_eq_false_iff, Bool.or_eq_false_iff, Bool.not_eq_false', decide_eq_true_eq, decide_eq_false_iff_not, beq_iff_eq, bne_iff_ne, beq_eq_false_iff_ne, bne_eq_false_iff_eq, Bool.true_and, ne_eq, Decidable.not_not, Int.not_lt, Int.not_le, Nat.not_lt, Nat.not_le, strB_nil, strB_nil', strB_nnil, strB_nnil'] at h6
        refine run_skip ?_
        refine run_seq ?_
        refine run_block ?_
        refine run_seq ?_
        refine run_region (q_move .n (.t rfl) rfl <| q_idx_rm .n (.t rfl) (.t rfl) sl_38 (fun _ => by omega) rfl <| q_ldN_ro .n (.t rfl) ag_71 rfl rfl rfl <| q_alloc (l := 201) .n rfl zv_71 rfl rfl <| q_assign .n (.t rfl) rfl <| q_st_boxm [.str (at' list x1).Id, .int .i64 (at' list x1).Junction, .int .i64 (at' list x1).Speed] .n rfl (.t rfl) (.t rfl) rfl ts_71 rfl rfl <| Lex.nil) ?_
        refine run_seq ?_
        refine run_draw fmo (q_ldN_ow .n (.t rfl) rfl (.inr rfl) ag_71 (fun _ => rfl) rfl rfl <| q_call0 (full := false) .n .f en_75 (.cons (.t rfl) .nil) (.cons (.sts rfl) .nil) (fun hg => c_impl_Crew_valid (at' list x1)) rfl (fun h => Bool.noConfusion h) rfl <| q_not .n (.t rfl) rfl <| q_move .n (.t rfl) rfl <| q_ldN_ow (.f rfl rfl) (.t rfl) rfl (.inr rfl) ag_35 (fun _ => rfl) rfl rfl <| q_fld_ow (.f rfl rfl) (.t rfl) fo_71_1 rfl <| q_ld1_ow (.f rfl rfl) (.u rfl id) rfl (.inr rfl) (fun _ => rfl) rfl ic_2 rfl <| q_call0 (full := false) (.f rfl rfl) .f en_62 (.cons (.u rfl id) (.cons (.u rfl id) .nil)) (.cons (.sts rfl) (.cons (.b (.a (.same rfl))) .nil)) (fun hg => c_impl_Mine_hasJunction m_ (at' list x1).Junction) rfl (fun h => Bool.noConfusion h) rfl <| q_not (.f rfl rfl) (.u rfl id) rfl <| q_or .n (.t rfl) (.u rfl id) rfl <| q_move .n (.t rfl) rfl <| q_move (.f rfl rfl) (.t rfl) rfl <| q_int (.f rfl rfl) (.u rfl id) (.c rfl) rfl rfl <| q_move (.f rfl rfl) (.u rfl id) rfl <| q_fld_ow (.t rfl rfl) (.t rfl) fo_71_0 rfl <| q_ld1_ow (.t rfl rfl) (.u rfl id) rfl (.inr rfl) (fun _ => rfl) rfl ic_9 rfl <| q_move (.t rfl rfl) (.t rfl) rfl <| q_move (.t rfl rfl) (.t rfl) rfl <| q_sub (.t rfl rfl) (.u rfl id) (.c rfl) (fun hg => by simp only [Bool.and_eq_true, Bool.or_eq_true, Bool.not_eq_true', Bool.and_eq_false_iff, Bool.or_eq_false_iff, Bool.not_eq_false', decide_eq_true_eq, decide_eq_false_iff_not, beq_iff_eq, bne_iff_ne, beq_eq_false_iff_ne, bne_eq_false_iff_eq, Bool.true_and, ne_eq, Decidable.not_not, Int.not_lt, Int.not_le, Nat.not_lt, Nat.not_le, strB_nil, strB_nil', strB_nnil, strB_nnil'] at hg; omega) rfl <| q_idx_rm (.t rfl rfl) (.u rfl id) (.u rfl id) sl_38 (fun hg => by simp only [Bool.and_eq_true, Bool.or_eq_true, Bool.not_eq_true', Bool.and_eq_false_iff, Bool.or_eq_false_iff, Bool.not_eq_false', decide_eq_true_eq, decide_eq_false_iff_not, beq_iff_eq, bne_iff_ne, beq_eq_false_iff_ne, bne_eq_false_iff_eq, Bool.true_and, ne_eq, Decidable.not_not, Int.not_lt, Int.not_le, Nat.not_lt, Nat.not_le, strB_nil, strB_nil', strB_nnil, strB_nnil'] at hg; omega) rfl <| q_fld_ro (.t rfl rfl) (.u rfl id) fo_71_0 rfl <| q_ld1_ro (.t rfl rfl) (.u rfl id) rfl ic_9 rfl <| q_strcmp (.t rfl rfl) (.u rfl id) (.u rfl id) rfl rfl <| q_and (.f rfl rfl) (.u rfl id) (.u rfl id) rfl <| q_or .n (.t rfl) (.u rfl id) rfl <| Lex.nil) (by kernel_rfl) ?_
        refine run_cond (.t rfl) rfl (fun h7 => ?_) (fun h7 => ?_)
        · try simp only [Bool.and_eq_true, Bool.or_eq_true, Bool.not_eq_true', Bool.and_eq_false_iff, Bool.or_eq_false_iff, Bool.not_eq_false', decide_eq_true_eq, decide_eq_false_iff_not, beq_iff_eq, bne_iff_ne, beq_eq_false_iff_ne, bne_eq_false_iff_eq, Bool.true_and, ne_eq, Decidable.not_not, Int.not_lt, Int.not_le, Nat.not_lt, Nat.not_le, strB_nil, strB_nil', strB_nnil, strB_nnil'] at h7
          refine run_seq ?_
          refine run_region (q_assign .n (.c rfl) rfl <| Lex.nil) ?_
          exact run_ret [] (.cons (.t rfl rfl) .nil) rfl trivial rfl
        · try simp only [Bool.and_eq_true, Bool.or_eq_true, Bool.not_eq_true', Bool.and_eq_false_iff, Bool.or_eq_false_iff, Bool.not_eq_false', decide_eq_true_eq, decide_eq_false_iff_not, beq_iff_eq, bne_iff_ne, beq_eq_false_iff_ne, bne_eq_false_iff_eq, Bool.true_and, ne_eq, Decidable.not_not, Int.not_lt, Int.not_le, Nat.not_lt, Nat.not_le, strB_nil, strB_nil', strB_nnil, strB_nnil'] at h7
          refine run_skip ?_
          refine run_endB ?_
          refine run_region (q_add .n (.t rfl) (.c rfl) (fun _ => by omega) rfl <| q_move .n (.t rfl) rfl <| Lex.nil) ?_
          exact run_again (x1 + 1) ⟨by omega, by omega⟩ (by omega) (sub_of [] ⟨rfl, rfl, rfl, rfl, rfl, trivial⟩ ⟨rfl, trivial⟩ rfl)
      · try simp only [Bool.and_eq_true, Bool.or_eq_true, Bool.not_eq_true', Bool.and_eq_false_iff, Bool.or_eq_false_iff, Bool.not_eq_false', decide_eq_true_eq, decide_eq_false_iff_not, beq_iff_eq, bne_iff_ne, beq_eq_false_iff_ne, bne_eq_false_iff_eq, Bool.true_and, ne_eq, Decidable.not_not, Int.not_lt, Int.not_le, Nat.not_lt, Nat.not_le, strB_nil, strB_nil', strB_nnil, strB_nnil'] at h6
        refine run_exit rfl ?_
        exact run_cont hk4 x1 ⟨by omega, by omega, by omega⟩ (sub_of [] trivial trivial rfl)

/-! ### impl_increasing -/
theorem c_impl_increasing (list : List Int) : Con Try.prog 76 [.sl 1 (list.map (V.int .i64))] [] (.bool (m_impl_increasing list)) ([]) := by
  refine con_intro (out := fun r : Bool => ((.bool r : V), ([] : List (Nat × Option O)))) (r := (m_impl_increasing list)) Try.func76 rfl Try.ntmps76 rfl ?_
  refine run_fact (t := 0) rfl fun hl => ?_
  have l1 := hl; clear hl; simp only [List.length_map] at l1
  refine run_seq ?_
  refine run_region (q_assign .n (.c rfl) rfl <| Lex.nil) ?_
  refine run_seq ?_
  refine run_seq ?_
  refine run_region (q_assign .n (.c rfl) rfl <| Lex.nil) ?_
  refine run_block ?_
  refine run_LOOP (m_impl_increasing_b1 list) _ _ _ rfl (fun (x1 : Int) => 1 ≤ x1) (fun x1 => 1 ≤ x1) (fun x1 => ((list.length : Int) - x1 : Int).toNat) (fun x1 => ⟨[(0, some (true, .sl 1 (list.map (V.int .i64)))), (3, some (true, .int .i64 x1))], []⟩) (fun x1 => ⟨[], []⟩) (by omega) (by omega) (sub_of [] ⟨rfl, rfl, trivial⟩ trivial rfl) ?_ ?_
  · intro x1 i6
    have e7 := i6
    try dsimp only at *
    refine run_seq ?_
    refine run_region (q_assign .n (.c rfl) rfl <| Lex.nil) ?_
    exact run_ret [] (.cons (.t rfl rfl) .nil) rfl trivial rfl
  · intro rec1 k1 hk2 x1 i3
    have e8 := i3
    try dsimp only at *
    refine run_seq ?_
    refine run_seq ?_
    refine run_region (q_move .n (.t rfl) rfl <| q_move .n (.t rfl) rfl <| q_len .n (.t rfl) rfl len_map ss_25 rfl <| q_int .n (.t rfl) (.t rfl) rfl rfl <| Lex.nil) ?_
    refine run_cond (.t rfl) rfl (fun h4 => ?_) (fun h4 => ?_)
    · try simp only [Bool.and_eq_true, Bool.or_eq_true, Bool.not_eq_true', Bool.and_eq_false_iff, Bool.or_eq_false_iff, Bool.not_eq_false', decide_eq_true_eq, decide_eq_false_iff_not, beq_iff_eq, bne_iff_ne, beq_eq_false_iff_ne, bne_eq_false_iff_eq, Bool.true_and, ne_eq, Decidable.not_not, Int.not_lt, Int.not_le, Nat.not_lt, Nat.not_le, strB_nil, strB_nil', strB_nnil, strB_nnil'] at h4
      refine run_skip ?_
      refine run_seq ?_
      refine run_block ?_
      refine run_seq ?_
      refine run_draw fmo (q_move .n (.t rfl) rfl <| q_move .n (.t rfl) rfl <| q_idx_rm .n (.t rfl) (.t rfl) sl_25 (fun _ => by omega) rfl <| q_ld1_ro .n (.t rfl) rfl ic_2 rfl <| q_move .n (.t rfl) rfl <| q_move .n (.t rfl) rfl <| q_sub .n (.t rfl) (.c rfl) (fun _ => by omega) rfl <| q_idx_rm .n (.t rfl) (.t rfl) sl_25 (fun _ => by omega) rfl <| q_ld1_ro .n (.t rfl) rfl ic_2 rfl <| q_int .n (.t rfl) (.t rfl) rfl rfl <| Lex.nil) (by kernel_rfl) ?_
      refine run_cond (.t rfl) rfl (fun h5 => ?_) (fun h5 => ?_)
      · try simp only [Bool.and_eq_true, Bool.or_eq_true, Bool.not_eq_true', Bool.and_eq_false_iff, Bool.or_eq_false_iff, Bool.not_eq_false', decide_eq_true_eq, decide_eq_false_iff_not, beq_iff_eq, bne_iff_ne, beq_eq_false_iff_ne, bne_eq_false_iff_eq, Bool.true_and, ne_eq, Decidable.not_not, Int.not_lt, Int.not_le, Nat.not_lt, Nat.not_le, strB_nil, strB_nil', strB_nnil, strB_nnil'] at h5
        refine run_seq ?_
        refine run_region (q_assign .n (.c rfl) rfl <| Lex.nil) ?_
        exact run_ret [] (.cons (.t rfl rfl) .nil) rfl trivial rfl
      · try simp only [Bool.and_eq_true, Bool.or_eq_true, Bool.not_eq_true', Bool.and_eq_false_iff, Bool.or_eq_false_iff, Bool.not_eq_false', decide_eq_true_eq, decide_eq_false_iff_not, beq_iff_eq, bne_iff_ne, beq_eq_false_iff_ne, bne_eq_false_iff_eq, Bool.true_and, ne_eq, Decidable.not_not, Int.not_lt, Int.not_le, Nat.not_lt, Nat.not_le, strB_nil, strB_nil', strB_nnil, strB_nnil'] at h5
        refine run_skip ?_
        refine run_endB ?_
        refine run_region (q_move .n (.t rfl) rfl <| q_add .n (.t rfl) (.c rfl) (fun _ => by omega) rfl <| q_assign .n (.t rfl) rfl <| Lex.nil) ?_
        exact run_again (x1 + 1) (by omega) (by omega) (sub_of [] ⟨rfl, rfl, trivial⟩ trivial rfl)
    · try simp only [Bool.and_eq_true, Bool.or_eq_true, Bool.not_eq_true', Bool.and_eq_false_iff, Bool.or_eq_false_iff, Bool.not_eq_false', decide_eq_true_eq, decide_eq_false_iff_not, beq_iff_eq, bne_iff_ne, beq_eq_false_iff_ne, bne_eq_false_iff_eq, Bool.true_and, ne_eq, Decidable.not_not, Int.not_lt, Int.not_le, Nat.not_lt, Nat.not_le, strB_nil, strB_nil', strB_nnil, strB_nnil'] at h4
      refine run_exit rfl ?_
      exact run_cont hk2 x1 (by omega) (sub_of [] trivial trivial rfl)

/-! ### impl_Mine_hasJunctions -/
theorem c_impl_Mine_hasJunctions (m_ : gMine) (list : List Int) : Con Try.prog 59 [.st [.int .i64 m_.Junctions, .sl 7 (m_.Airways.map gAirway.v)], .sl 1 (list.map (V.int .i64))] [] (.bool (m_impl_Mine_hasJunctions m_ list)) ([]) := by
  refine con_intro (out := fun r : Bool => ((.bool r : V), ([] : List (Nat × Option O)))) (r := (m_impl_Mine_hasJunctions m_ list)) Try.func59 rfl Try.ntmps59 rfl ?_
  refine run_factS (t := 0) 1 rfl rfl fun hl => ?_
  have l1 := hl; clear hl; simp only [List.length_map] at l1
  refine run_fact (t := 1) rfl fun hl => ?_
  have l2 := hl; clear hl; simp only [List.length_map] at l2
  refine run_seq ?_
  refine run_region (q_box (l := 200) .n rfl (.t rfl) rfl rfl rfl rfl <| q_assign .n (.c rfl) rfl <| Lex.nil) ?_
  refine run_seq ?_
  refine run_region (q_move .n (.t rfl) rfl <| q_call0 (full := false) .n .f en_76 (.cons (.t rfl) .nil) (.cons (.b (.a (.same rfl))) .nil) (fun hg => c_impl_increasing list) rfl (fun h => Bool.noConfusion h) rfl <| q_move .n (.t rfl) rfl <| q_move (.t rfl rfl) (.t rfl) rfl <| q_fld_ow (.t rfl rfl) (.t rfl) fo_35_0 rfl <| q_ld1_ow (.t rfl rfl) (.u rfl id) rfl (.inr rfl) (fun _ => rfl) rfl ic_2 rfl <| q_int (.t rfl rfl) (.u rfl id) (.c rfl) rfl rfl <| q_call0 (full := false) (.t rfl rfl) .f en_39 (.cons (.u rfl id) (.cons (.c rfl) (.cons (.u rfl id) .nil))) (.cons (.b (.a (.same rfl))) (.cons (.b (.a (.same rfl))) (.cons (.b (.a (.same rfl))) .nil))) (fun hg => c_impl_allWithin list 0 (IntKind.wrap .i64 (m_.Junctions - 1))) rfl (fun h => Bool.noConfusion h) rfl <| q_and .n (.t rfl) (.u rfl id) rfl <| q_assign .n (.t rfl) rfl <| Lex.nil) ?_
  exact run_ret [] (.cons (.t rfl rfl) .nil) rfl trivial rfl

/-! ### impl_escapeOf -/
theorem c_impl_escapeOf (m_ : gMine) (arrivals : List Int) (blocked : Int) (list : List gCrew) (start : Int) (exits : List Int) : Con Try.prog 36 [.st [.int .i64 m_.Junctions, .sl 7 (m_.Airways.map gAirway.v)], .sl 1 (arrivals.map (V.int .i64)), .int .i64 blocked, .sl 3 (list.map gCrew.v), .int .i64 start, .sl 1 (exits.map (V.int .i64))] [] (.tup [.st [.int .i64 (m_impl_escapeOf m_ arrivals blocked list start exits).1.mine.Junctions, .sl 7 ((m_impl_escapeOf m_ arrivals blocked list start exits).1.mine.Airways.map gAirway.v), .sl 1 ((m_impl_escapeOf m_ arrivals blocked list start exits).1.arrivals.map (V.int .i64)), .int .i64 (m_impl_escapeOf m_ arrivals blocked list start exits).1.blocked], .int .i64 (m_impl_escapeOf m_ arrivals blocked list start exits).2]) ([]) := by
  refine con_intro (out := fun r : gescape × Int => ((.tup [.st [.int .i64 r.1.mine.Junctions, .sl 7 (r.1.mine.Airways.map gAirway.v), .sl 1 (r.1.arrivals.map (V.int .i64)), .int .i64 r.1.blocked], .int .i64 r.2] : V), ([] : List (Nat × Option O)))) (r := (m_impl_escapeOf m_ arrivals blocked list start exits)) Try.func36 rfl Try.ntmps36 rfl ?_
  refine run_factS (t := 0) 1 rfl rfl fun hl => ?_
  have l1 := hl; clear hl; simp only [List.length_map] at l1
  refine run_fact (t := 1) rfl fun hl => ?_
  have l2 := hl; clear hl; simp only [List.length_map] at l2
  refine run_fact (t := 3) rfl fun hl => ?_
  have l3 := hl; clear hl; simp only [List.length_map] at l3
  refine run_fact (t := 5) rfl fun hl => ?_
  have l4 := hl; clear hl; simp only [List.length_map] at l4
  refine run_seq ?_
  refine run_region (q_box (l := 200) .n rfl (.t rfl) rfl rfl rfl rfl <| q_alloc (l := 201) .n rfl zv_78 rfl rfl <| q_assign .n (.c rfl) rfl <| Lex.nil) ?_
  refine run_seq ?_
  refine run_block ?_
  refine run_seq ?_
  refine run_region (q_ldN_ow .n (.t rfl) rfl (.inr rfl) ag_35 (fun _ => rfl) rfl rfl <| q_move .n (.t rfl) rfl <| q_call0 (full := false) .n .f en_57 (.cons (.t rfl) (.cons (.t rfl) .nil)) (.cons (.sts rfl) (.cons (.b (.a (.same rfl))) .nil)) (fun hg => c_impl_ValidCrews m_ list) rfl (fun h => Bool.noConfusion h) rfl <| q_not .n (.t rfl) rfl <| q_assign .n (.t rfl) rfl <| Lex.nil) ?_
  refine run_cond (.t rfl) rfl (fun h5 => ?_) (fun h5 => ?_)
  · try simp only [Bool.and_eq_true, Bool.or_eq_true, Bool.not_eq_true', Bool.and_eq_false_iff, Bool.or_eq_false_iff, Bool.not_eq_false', decide_eq_true_eq, decide_eq_false_iff_not, beq_iff_eq, bne_iff_ne, beq_eq_false_iff_ne, bne_eq_false_iff_eq, Bool.true_and, ne_eq, Decidable.not_not, Int.not_lt, Int.not_le, Nat.not_lt, Nat.not_le, strB_nil, strB_nil', strB_nnil, strB_nnil'] at h5
    refine run_seq ?_
    refine run_region (q_build (us := [.int .i64 0, .nls, .nls, .int .i64 0]) .n .nil zv_78 pl_78 rfl rfl rfl <| q_st_boxm [.int .i64 0, .nls, .nls, .int .i64 0] .n rfl (.t rfl) (.t rfl) rfl ts_78 rfl rfl <| q_assign .n (.c rfl) rfl <| Lex.nil) ?_
    refine run_sub (sub_nlsB (b := 201) [.int .i64 0, .sl 7 (([] : List gAirway).map gAirway.v), .sl 1 (([] : List Int).map (V.int .i64)), .int .i64 0] rfl ⟨.inl rfl, .inr ⟨rfl, _, rfl⟩, .inr ⟨rfl, _, rfl⟩, .inl rfl, trivial⟩) ?_
    exact run_ret [] (.cons (.cN rfl rfl ag_78 rfl rfl) (.cons (.t rfl rfl) .nil)) (by first | rfl | (simp only [put_len]; rfl)) trivial rfl
  · try simp only [Bool.and_eq_true, Bool.or_eq_true, Bool.not_eq_true', Bool.and_eq_false_iff, Bool.or_eq_false_iff, Bool.not_eq_false', decide_eq_true_eq, decide_eq_false_iff_not, beq_iff_eq, bne_iff_ne, beq_eq_false_iff_ne, bne_eq_false_iff_eq, Bool.true_and, ne_eq, Decidable.not_not, Int.not_lt, Int.not_le, Nat.not_lt, Nat.not_le, strB_nil, strB_nil', strB_nnil, strB_nnil'] at h5
    refine run_seq ?_
    refine run_region (q_move .n (.t rfl) rfl <| q_fld_ow .n (.t rfl) fo_35_1 rfl <| q_ld1_ow .n (.t rfl) rfl (.inr rfl) (fun _ => rfl) rfl ic_33 rfl <| q_len .n (.t rfl) rfl len_map ss_33 rfl <| q_sub .n (.t rfl) (.c rfl) (fun _ => by omega) rfl <| q_call0 (full := false) .n .f en_58 (.cons (.t rfl) (.cons (.c rfl) (.cons (.t rfl) .nil))) (.cons (.b (.a (.same rfl))) (.cons (.b (.a (.same rfl))) (.cons (.b (.a (.same rfl))) .nil))) (fun hg => c_impl_within blocked (-1) ((m_.Airways.length : Int) - 1)) rfl (fun h => Bool.noConfusion h) rfl <| q_not .n (.t rfl) rfl <| q_move .n (.t rfl) rfl <| q_move (.f rfl rfl) (.t rfl) rfl <| q_call0 (full := false) (.f rfl rfl) .f en_58 (.cons (.u rfl id) (.cons (.c rfl) (.cons (.c rfl) .nil))) (.cons (.b (.a (.same rfl))) (.cons (.b (.a (.same rfl))) (.cons (.b (.a (.same rfl))) .nil))) (fun hg => c_impl_within start 0 36000) rfl (fun h => Bool.noConfusion h) rfl <| q_not (.f rfl rfl) (.u rfl id) rfl <| q_or .n (.t rfl) (.u rfl id) rfl <| q_assign .n (.t rfl) rfl <| Lex.nil) ?_
    refine run_cond (.t rfl) rfl (fun h6 => ?_) (fun h6 => ?_)
    · try simp only [Bool.and_eq_true, Bool.or_eq_true, Bool.not_eq_true', Bool.and_eq_false_iff, Bool.or_eq_false_iff, Bool.not_eq_false', decide_eq_true_eq, decide_eq_false_iff_not, beq_iff_eq, bne_iff_ne, beq_eq_false_iff_ne, bne_eq_false_iff_eq, Bool.true_and, ne_eq, Decidable.not_not, Int.not_lt, Int.not_le, Nat.not_lt, Nat.not_le, strB_nil, strB_nil', strB_nnil, strB_nnil'] at h6
      try have hf0h6 := within_imp h6
      try have hf1h6 := within_imp h6.1
      try have hf2h6 := within_imp h6.2
      try have hf3h6 := within_imp h6.1.1
      try have hf4h6 := within_imp h6.1.2
      try have hf5h6 := within_imp h6.2.1
      try have hf6h6 := within_imp h6.2.2
      refine run_seq ?_
      refine run_region (q_build (us := [.int .i64 0, .nls, .nls, .int .i64 0]) .n .nil zv_78 pl_78 rfl rfl rfl <| q_st_boxm [.int .i64 0, .nls, .nls, .int .i64 0] .n rfl (.t rfl) (.t rfl) rfl ts_78 rfl rfl <| q_assign .n (.c rfl) rfl <| Lex.nil) ?_
      refine run_sub (sub_nlsB (b := 201) [.int .i64 0, .sl 7 (([] : List gAirway).map gAirway.v), .sl 1 (([] : List Int).map (V.int .i64)), .int .i64 0] rfl ⟨.inl rfl, .inr ⟨rfl, _, rfl⟩, .inr ⟨rfl, _, rfl⟩, .inl rfl, trivial⟩) ?_
      exact run_ret [] (.cons (.cN rfl rfl ag_78 rfl rfl) (.cons (.t rfl rfl) .nil)) (by first | rfl | (simp only [put_len]; rfl)) trivial rfl
    · try simp only [Bool.and_eq_true, Bool.or_eq_true, Bool.not_eq_true', Bool.and_eq_false_iff, Bool.or_eq_false_iff, Bool.not_eq_false', decide_eq_true_eq, decide_eq_false_iff_not, beq_iff_eq, bne_iff_ne, beq_eq_false_iff_ne, bne_eq_false_iff_eq, Bool.true_and, ne_eq, Decidable.not_not, Int.not_lt, Int.not_le, Nat.not_lt, Nat.not_le, strB_nil, strB_nil', strB_nnil, strB_nnil'] at h6
      try have hf0h6 := within_imp h6
      try have hf1h6 := within_imp h6.1
      try have hf2h6 := within_imp h6.2
      try have hf3h6 := within_imp h6.1.1
      try have hf4h6 := within_imp h6.1.2
      try have hf5h6 := within_imp h6.2.1
      try have hf6h6 := within_imp h6.2.2
      refine run_seq ?_
      refine run_region (q_move .n (.t rfl) rfl <| q_len .n (.t rfl) rfl len_map ss_25 rfl <| q_fld_ow .n (.t rfl) fo_35_0 rfl <| q_ld1_ow .n (.t rfl) rfl (.inr rfl) (fun _ => rfl) rfl ic_2 rfl <| q_int .n (.t rfl) (.t rfl) rfl rfl <| q_move .n (.t rfl) rfl <| q_move (.f rfl rfl) (.t rfl) rfl <| q_call0 (full := false) (.f rfl rfl) .f en_39 (.cons (.u rfl id) (.cons (.c rfl) (.cons (.c rfl) .nil))) (.cons (.b (.a (.same rfl))) (.cons (.b (.a (.same rfl))) (.cons (.b (.a (.same rfl))) .nil))) (fun hg => c_impl_allWithin arrivals (-1) 1000000000000) rfl (fun h => Bool.noConfusion h) rfl <| q_not (.f rfl rfl) (.u rfl id) rfl <| q_or .n (.t rfl) (.u rfl id) rfl <| q_move .n (.t rfl) rfl <| q_ldN_ow (.f rfl rfl) (.t rfl) rfl (.inr rfl) ag_35 (fun _ => rfl) rfl rfl <| q_move (.f rfl rfl) (.t rfl) rfl <| q_call0 (full := false) (.f rfl rfl) .f en_59 (.cons (.u rfl id) (.cons (.u rfl id) .nil)) (.cons (.sts rfl) (.cons (.b (.a (.same rfl))) .nil)) (fun hg => c_impl_Mine_hasJunctions m_ exits) rfl (fun h => Bool.noConfusion h) rfl <| q_not (.f rfl rfl) (.u rfl id) rfl <| q_or .n (.t rfl) (.u rfl id) rfl <| q_assign .n (.t rfl) rfl <| Lex.nil) ?_
      refine run_cond (.t rfl) rfl (fun h7 => ?_) (fun h7 => ?_)
      · try simp only [Bool.and_eq_true, Bool.or_eq_true, Bool.not_eq_true', Bool.and_eq_false_iff, Bool.or_eq_false_iff, Bool.not_eq_false', decide_eq_true_eq, decide_eq_false_iff_not, beq_iff_eq, bne_iff_ne, beq_eq_false_iff_ne, bne_eq_false_iff_eq, Bool.true_and, ne_eq, Decidable.not_not, Int.not_lt, Int.not_le, Nat.not_lt, Nat.not_le, strB_nil, strB_nil', strB_nnil, strB_nnil'] at h7
        refine run_seq ?_
        refine run_region (q_build (us := [.int .i64 0, .nls, .nls, .int .i64 0]) .n .nil zv_78 pl_78 rfl rfl rfl <| q_st_boxm [.int .i64 0, .nls, .nls, .int .i64 0] .n rfl (.t rfl) (.t rfl) rfl ts_78 rfl rfl <| q_assign .n (.c rfl) rfl <| Lex.nil) ?_
        refine run_sub (sub_nlsB (b := 201) [.int .i64 0, .sl 7 (([] : List gAirway).map gAirway.v), .sl 1 (([] : List Int).map (V.int .i64)), .int .i64 0] rfl ⟨.inl rfl, .inr ⟨rfl, _, rfl⟩, .inr ⟨rfl, _, rfl⟩, .inl rfl, trivial⟩) ?_
        exact run_ret [] (.cons (.cN rfl rfl ag_78 rfl rfl) (.cons (.t rfl rfl) .nil)) (by first | rfl | (simp only [put_len]; rfl)) trivial rfl
      · try simp only [Bool.and_eq_true, Bool.or_eq_true, Bool.not_eq_true', Bool.and_eq_false_iff, Bool.or_eq_false_iff, Bool.not_eq_false', decide_eq_true_eq, decide_eq_false_iff_not, beq_iff_eq, bne_iff_ne, beq_eq_false_iff_ne, bne_eq_false_iff_eq, Bool.true_and, ne_eq, Decidable.not_not, Int.not_lt, Int.not_le, Nat.not_lt, Nat.not_le, strB_nil, strB_nil', strB_nnil, strB_nnil'] at h7
        refine run_skip ?_
        refine run_endB ?_
        refine run_seq ?_
        refine run_region (q_ldN_ow .n (.t rfl) rfl (.inr rfl) ag_35 (fun _ => rfl) rfl rfl <| q_move .n (.t rfl) rfl <| q_move .n (.t rfl) rfl <| q_build (us := [.int .i64 m_.Junctions, .sl 7 (m_.Airways.map gAirway.v), .sl 1 (arrivals.map (V.int .i64)), .int .i64 blocked]) .n (.cons (.t rfl) (.cons (.t rfl) (.cons (.t rfl) .nil))) zv_78 pl_78 rfl rfl rfl <| q_st_boxm [.int .i64 m_.Junctions, .sl 7 (m_.Airways.map gAirway.v), .sl 1 (arrivals.map (V.int .i64)), .int .i64 blocked] .n rfl (.t rfl) (.t rfl) rfl ts_78 rfl rfl <| q_assign .n (.c rfl) rfl <| Lex.nil) ?_
        exact run_ret [] (.cons (.cN rfl rfl ag_78 rfl rfl) (.cons (.t rfl rfl) .nil)) (by first | rfl | (simp only [put_len]; rfl)) trivial rfl

/-! ### impl_Refuge_valid -/
theorem c_impl_Refuge_valid (x_ : gRefuge) : Con Try.prog 61 [.st [.str x_.Id, .int .i64 x_.Junction, .int .i64 x_.Places, .int .i64 x_.Air]] [] (.bool (m_impl_Refuge_valid x_)) ([]) := by
  refine con_intro (out := fun r : Bool => ((.bool r : V), ([] : List (Nat × Option O)))) (r := (m_impl_Refuge_valid x_)) Try.func61 rfl Try.ntmps61 rfl ?_
  refine run_seq ?_
  refine run_region (q_box (l := 200) .n rfl (.t rfl) rfl rfl rfl rfl <| q_assign .n (.c rfl) rfl <| Lex.nil) ?_
  refine run_seq ?_
  refine run_region (q_fld_ow .n (.t rfl) fo_72_0 rfl <| q_ld1_ow .n (.t rfl) rfl (.inr rfl) (fun _ => rfl) rfl ic_9 rfl <| q_call0 (full := false) .n .f en_79 (.cons (.t rfl) .nil) (.cons (.b (.a (.same rfl))) .nil) (fun hg => c_impl_IsName x_.Id) rfl (fun h => Bool.noConfusion h) rfl <| q_move .n (.t rfl) rfl <| q_fld_ow (.t rfl rfl) (.t rfl) fo_72_1 rfl <| q_ld1_ow (.t rfl rfl) (.u rfl id) rfl (.inr rfl) (fun _ => rfl) rfl ic_2 rfl <| q_call0 (full := false) (.t rfl rfl) .f en_80 (.cons (.u rfl id) .nil) (.cons (.b (.a (.same rfl))) .nil) (fun hg => c_impl_junctionOk x_.Junction) rfl (fun h => Bool.noConfusion h) rfl <| q_and .n (.t rfl) (.u rfl id) rfl <| q_move .n (.t rfl) rfl <| q_fld_ow (.t rfl rfl) (.t rfl) fo_72_2 rfl <| q_ld1_ow (.t rfl rfl) (.u rfl id) rfl (.inr rfl) (fun _ => rfl) rfl ic_2 rfl <| q_call0 (full := false) (.t rfl rfl) .f en_58 (.cons (.u rfl id) (.cons (.c rfl) (.cons (.c rfl) .nil))) (.cons (.b (.a (.same rfl))) (.cons (.b (.a (.same rfl))) (.cons (.b (.a (.same rfl))) .nil))) (fun hg => c_impl_within x_.Places 1 200) rfl (fun h => Bool.noConfusion h) rfl <| q_and .n (.t rfl) (.u rfl id) rfl <| q_move .n (.t rfl) rfl <| q_fld_ow (.t rfl rfl) (.t rfl) fo_72_3 rfl <| q_ld1_ow (.t rfl rfl) (.u rfl id) rfl (.inr rfl) (fun _ => rfl) rfl ic_2 rfl <| q_call0 (full := false) (.t rfl rfl) .f en_58 (.cons (.u rfl id) (.cons (.c rfl) (.cons (.c rfl) .nil))) (.cons (.b (.a (.same rfl))) (.cons (.b (.a (.same rfl))) (.cons (.b (.a (.same rfl))) .nil))) (fun hg => c_impl_within x_.Air 0 10000000) rfl (fun h => Bool.noConfusion h) rfl <| q_and .n (.t rfl) (.u rfl id) rfl <| q_assign .n (.t rfl) rfl <| Lex.nil) ?_
  exact run_ret [] (.cons (.t rfl rfl) .nil) rfl trivial rfl

/-! ### impl_ValidRefuges -/
theorem c_impl_ValidRefuges (m_ : gMine) (list : List gRefuge) : Con Try.prog 37 [.st [.int .i64 m_.Junctions, .sl 7 (m_.Airways.map gAirway.v)], .sl 4 (list.map gRefuge.v)] [] (.bool (m_impl_ValidRefuges m_ list)) ([]) := by
  refine con_intro (out := fun r : Bool => ((.bool r : V), ([] : List (Nat × Option O)))) (r := (m_impl_ValidRefuges m_ list)) Try.func37 rfl Try.ntmps37 rfl ?_
  refine run_factS (t := 0) 1 rfl rfl fun hl => ?_
  have l1 := hl; clear hl; simp only [List.length_map] at l1
  refine run_fact (t := 1) rfl fun hl => ?_
  have l2 := hl; clear hl; simp only [List.length_map] at l2
  refine run_seq ?_
  refine run_region (q_box (l := 200) .n rfl (.t rfl) rfl rfl rfl rfl <| q_assign .n (.c rfl) rfl <| Lex.nil) ?_
  refine run_seq ?_
  refine run_seq ?_
  refine run_region (q_ldN_ow .n (.t rfl) rfl (.inr rfl) ag_35 (fun _ => rfl) rfl rfl <| q_call0 (full := false) .n .f en_60 (.cons (.t rfl) .nil) (.cons (.sts rfl) .nil) (fun hg => c_impl_ValidMine m_) rfl (fun h => Bool.noConfusion h) rfl <| q_not .n (.t rfl) rfl <| q_move .n (.t rfl) rfl <| q_move (.f rfl rfl) (.t rfl) rfl <| q_len (.f rfl rfl) (.u rfl id) rfl len_map ss_40 rfl <| q_int (.f rfl rfl) (.u rfl id) (.c rfl) rfl rfl <| q_or .n (.t rfl) (.u rfl id) rfl <| Lex.nil) ?_
  refine run_cond (.t rfl) rfl (fun h3 => ?_) (fun h3 => ?_)
  · try simp only [Bool.and_eq_true, Bool.or_eq_true, Bool.not_eq_true', Bool.and_eq_false_iff, Bool.or_eq_false_iff, Bool.not_eq_false', decide_eq_true_eq, decide_eq_false_iff_not, beq_iff_eq, bne_iff_ne, beq_eq_false_iff_ne, bne_eq_false_iff_eq, Bool.true_and, ne_eq, Decidable.not_not, Int.not_lt, Int.not_le, Nat.not_lt, Nat.not_le, strB_nil, strB_nil', strB_nnil, strB_nnil'] at h3
    try have hf0h3 := ValidMine_imp h3
    try have hf1h3 := ValidMine_imp h3.1
    try have hf2h3 := ValidMine_imp h3.2
    try have hf3h3 := ValidMine_imp h3.1.1
    try have hf4h3 := ValidMine_imp h3.1.2
    try have hf5h3 := ValidMine_imp h3.2.1
    try have hf6h3 := ValidMine_imp h3.2.2
    refine run_seq ?_
    refine run_region (q_assign .n (.c rfl) rfl <| Lex.nil) ?_
    exact run_ret [] (.cons (.t rfl rfl) .nil) rfl trivial rfl
  · try simp only [Bool.and_eq_true, Bool.or_eq_true, Bool.not_eq_true', Bool.and_eq_false_iff, Bool.or_eq_false_iff, Bool.not_eq_false', decide_eq_true_eq, decide_eq_false_iff_not, beq_iff_eq, bne_iff_ne, beq_eq_false_iff_ne, bne_eq_false_iff_eq, Bool.true_and, ne_eq, Decidable.not_not, Int.not_lt, Int.not_le, Nat.not_lt, Nat.not_le, strB_nil, strB_nil', strB_nnil, strB_nnil'] at h3
    try have hf0h3 := ValidMine_imp h3
    try have hf1h3 := ValidMine_imp h3.1
    try have hf2h3 := ValidMine_imp h3.2
    try have hf3h3 := ValidMine_imp h3.1.1
    try have hf4h3 := ValidMine_imp h3.1.2
    try have hf5h3 := ValidMine_imp h3.2.1
    try have hf6h3 := ValidMine_imp h3.2.2
    refine run_skip ?_
    refine run_seq ?_
    refine run_seq ?_
    refine run_region (q_move .n (.t rfl) rfl <| q_len .n (.t rfl) rfl len_map ss_40 rfl <| q_move .n (.c rfl) rfl <| Lex.nil) ?_
    refine run_block ?_
    refine run_LOOP (m_impl_ValidRefuges_b1 m_ list) _ _ _ rfl (fun (x1 : Int) => 0 ≤ x1 ∧ x1 ≤ (list.length : Int)) (fun x1 => 0 ≤ x1 ∧ x1 ≤ (list.length : Int) ∧ (list.length : Int) ≤ x1) (fun x1 => ((list.length : Int) - x1 : Int).toNat) (fun x1 => ⟨[(1, some (true, .sl 4 (list.map gRefuge.v))), (2, some (true, .op 200 0 0 0)), (15, some (true, .sl 4 (list.map gRefuge.v))), (16, some (true, .int .i64 (list.length : Int))), (17, some (true, .int .i64 x1))], [(200, some (.box 35 [.int .i64 m_.Junctions, .sl 7 (m_.Airways.map gAirway.v)]))]⟩) (fun x1 => ⟨[], []⟩) ⟨by omega, by omega⟩ (by omega) (sub_of [] ⟨rfl, rfl, rfl, rfl, rfl, trivial⟩ ⟨rfl, trivial⟩ rfl) ?_ ?_
    · intro x1 i8
      obtain ⟨e9, e10, e11⟩ := i8
      try dsimp only at *
      refine run_seq ?_
      refine run_region (q_assign .n (.c rfl) rfl <| Lex.nil) ?_
      exact run_ret [] (.cons (.t rfl rfl) .nil) rfl trivial rfl
    · intro rec1 k1 hk4 x1 i5
      obtain ⟨e12, e13⟩ := i5
      try dsimp only at *
      refine run_seq ?_
      refine run_region (q_int .n (.t rfl) (.t rfl) rfl rfl <| Lex.nil) ?_
      refine run_seq ?_
      refine run_cond (.t rfl) rfl (fun h6 => ?_) (fun h6 => ?_)
      · try simp only [Bool.and_eq_true, Bool.or_eq_true, Bool.not_eq_true', Bool.and_eq_false_iff, Bool.or_eq_false_iff, Bool.not_eq_false', decide_eq_true_eq, decide_eq_false_iff_not, beq_iff_eq, bne_iff_ne, beq_eq_false_iff_ne, bne_eq_false_iff_eq, Bool.true_and, ne_eq, Decidable.not_not, Int.not_lt, Int.not_le, Nat.not_lt, Nat.not_le, strB_nil, strB_nil', strB_nnil, strB_nnil'] at h6
        refine run_skip ?_
        refine run_seq ?_
        refine run_block ?_
        refine run_seq ?_
        refine run_region (q_move .n (.t rfl) rfl <| q_idx_rm .n (.t rfl) (.t rfl) sl_40 (fun _ => by omega) rfl <| q_ldN_ro .n (.t rfl) ag_72 rfl rfl rfl <| q_alloc (l := 201) .n rfl zv_72 rfl rfl <| q_assign .n (.t rfl) rfl <| q_st_boxm [.str (at' list x1).Id, .int .i64 (at' list x1).Junction, .int .i64 (at' list x1).Places, .int .i64 (at' list x1).Air] .n rfl (.t rfl) (.t rfl) rfl ts_72 rfl rfl <| Lex.nil) ?_
        refine run_seq ?_
        refine run_draw fmo (q_ldN_ow .n (.t rfl) rfl (.inr rfl) ag_72 (fun _ => rfl) rfl rfl <| q_call0 (full := false) .n .f en_61 (.cons (.t rfl) .nil) (.cons (.sts rfl) .nil) (fun hg => c_impl_Refuge_valid (at' list x1)) rfl (fun h => Bool.noConfusion h) rfl <| q_not .n (.t rfl) rfl <| q_move .n (.t rfl) rfl <| q_ldN_ow (.f rfl rfl) (.t rfl) rfl (.inr rfl) ag_35 (fun _ => rfl) rfl rfl <| q_fld_ow (.f rfl rfl) (.t rfl) fo_72_1 rfl <| q_ld1_ow (.f rfl rfl) (.u rfl id) rfl (.inr rfl) (fun _ => rfl) rfl ic_2 rfl <| q_call0 (full := false) (.f rfl rfl) .f en_62 (.cons (.u rfl id) (.cons (.u rfl id) .nil)) (.cons (.sts rfl) (.cons (.b (.a (.same rfl))) .nil)) (fun hg => c_impl_Mine_hasJunction m_ (at' list x1).Junction) rfl (fun h => Bool.noConfusion h) rfl <| q_not (.f rfl rfl) (.u rfl id) rfl <| q_or .n (.t rfl) (.u rfl id) rfl <| q_move .n (.t rfl) rfl <| q_move (.f rfl rfl) (.t rfl) rfl <| q_int (.f rfl rfl) (.u rfl id) (.c rfl) rfl rfl <| q_move (.f rfl rfl) (.u rfl id) rfl <| q_fld_ow (.t rfl rfl) (.t rfl) fo_72_0 rfl <| q_ld1_ow (.t rfl rfl) (.u rfl id) rfl (.inr rfl) (fun _ => rfl) rfl ic_9 rfl <| q_move (.t rfl rfl) (.t rfl) rfl <| q_move (.t rfl rfl) (.t rfl) rfl <| q_sub (.t rfl rfl) (.u rfl id) (.c rfl) (fun hg => by simp only [Bool.and_eq_true, Bool.or_eq_true, Bool.not_eq_true', Bool.and_eq_false_iff, Bool.or_eq_false_iff, Bool.not_eq_false', decide_eq_true_eq, decide_eq_false_iff_not, beq_iff_eq, bne_iff_ne, beq_eq_false_iff_ne, bne_eq_false_iff_eq, Bool.true_and, ne_eq, Decidable.not_not, Int.not_lt, Int.not_le, Nat.not_lt, Nat.not_le, strB_nil, strB_nil', strB_nnil, strB_nnil'] at hg; omega) rfl <| q_idx_rm (.t rfl rfl) (.u rfl id) (.u rfl id) sl_40 (fun hg => by simp only [Bool.and_eq_true, Bool.or_eq_true, Bool.not_eq_true', Bool.and_eq_false_iff, Bool.or_eq_false_iff, Bool.not_eq_false', decide_eq_true_eq, decide_eq_false_iff_not, beq_iff_eq, bne_iff_ne, beq_eq_false_iff_ne, bne_eq_false_iff_eq, Bool.true_and, ne_eq, Decidable.not_not, Int.not_lt, Int.not_le, Nat.not_lt, Nat.not_le, strB_nil, strB_nil', strB_nnil, strB_nnil'] at hg; omega) rfl <| q_fld_ro (.t rfl rfl) (.u rfl id) fo_72_0 rfl <| q_ld1_ro (.t rfl rfl) (.u rfl id) rfl ic_9 rfl <| q_strcmp (.t rfl rfl) (.u rfl id) (.u rfl id) rfl rfl <| q_and (.f rfl rfl) (.u rfl id) (.u rfl id) rfl <| q_or .n (.t rfl) (.u rfl id) rfl <| Lex.nil) (by kernel_rfl) ?_
        refine run_cond (.t rfl) rfl (fun h7 => ?_) (fun h7 => ?_)
        · try simp only [Bool.and_eq_true, Bool.or_eq_true, Bool.not_eq_true', Bool.and_eq_false_iff, Bool.or_eq_false_iff, Bool.not_eq_false', decide_eq_true_eq, decide_eq_false_iff_not, beq_iff_eq, bne_iff_ne, beq_eq_false_iff_ne, bne_eq_false_iff_eq, Bool.true_and, ne_eq, Decidable.not_not, Int.not_lt, Int.not_le, Nat.not_lt, Nat.not_le, strB_nil, strB_nil', strB_nnil, strB_nnil'] at h7
          refine run_seq ?_
          refine run_region (q_assign .n (.c rfl) rfl <| Lex.nil) ?_
          exact run_ret [] (.cons (.t rfl rfl) .nil) rfl trivial rfl
        · try simp only [Bool.and_eq_true, Bool.or_eq_true, Bool.not_eq_true', Bool.and_eq_false_iff, Bool.or_eq_false_iff, Bool.not_eq_false', decide_eq_true_eq, decide_eq_false_iff_not, beq_iff_eq, bne_iff_ne, beq_eq_false_iff_ne, bne_eq_false_iff_eq, Bool.true_and, ne_eq, Decidable.not_not, Int.not_lt, Int.not_le, Nat.not_lt, Nat.not_le, strB_nil, strB_nil', strB_nnil, strB_nnil'] at h7
          refine run_skip ?_
          refine run_endB ?_
          refine run_region (q_add .n (.t rfl) (.c rfl) (fun _ => by omega) rfl <| q_move .n (.t rfl) rfl <| Lex.nil) ?_
          exact run_again (x1 + 1) ⟨by omega, by omega⟩ (by omega) (sub_of [] ⟨rfl, rfl, rfl, rfl, rfl, trivial⟩ ⟨rfl, trivial⟩ rfl)
      · try simp only [Bool.and_eq_true, Bool.or_eq_true, Bool.not_eq_true', Bool.and_eq_false_iff, Bool.or_eq_false_iff, Bool.not_eq_false', decide_eq_true_eq, decide_eq_false_iff_not, beq_iff_eq, bne_iff_ne, beq_eq_false_iff_ne, bne_eq_false_iff_eq, Bool.true_and, ne_eq, Decidable.not_not, Int.not_lt, Int.not_le, Nat.not_lt, Nat.not_le, strB_nil, strB_nil', strB_nnil, strB_nnil'] at h6
        refine run_exit rfl ?_
        exact run_cont hk4 x1 ⟨by omega, by omega, by omega⟩ (sub_of [] trivial trivial rfl)

/-! ### impl_budgetValid -/
theorem c_impl_budgetValid (budget : Int) : Con Try.prog 38 [.int .i64 budget] [] (.bool (m_impl_budgetValid budget)) ([]) := by
  refine con_intro (out := fun r : Bool => ((.bool r : V), ([] : List (Nat × Option O)))) (r := (m_impl_budgetValid budget)) Try.func38 rfl Try.ntmps38 rfl ?_
  refine run_seq ?_
  refine run_region (q_assign .n (.c rfl) rfl <| Lex.nil) ?_
  refine run_seq ?_
  refine run_region (q_move .n (.t rfl) rfl <| q_call0 (full := false) .n .f en_58 (.cons (.t rfl) (.cons (.c rfl) (.cons (.c rfl) .nil))) (.cons (.b (.a (.same rfl))) (.cons (.b (.a (.same rfl))) (.cons (.b (.a (.same rfl))) .nil))) (fun hg => c_impl_within budget 1 20000) rfl (fun h => Bool.noConfusion h) rfl <| q_assign .n (.t rfl) rfl <| Lex.nil) ?_
  exact run_ret [] (.cons (.t rfl rfl) .nil) rfl trivial rfl

/-! ### math_bits_Mul32 -/
theorem c_math_bits_Mul32 (x_ : Int) (y : Int) : Con Try.prog 87 [.int .u32 x_, .int .u32 y] [] (.tup [.int .u32 (m_math_bits_Mul32 x_ y).1, .int .u32 (m_math_bits_Mul32 x_ y).2]) ([]) := by
  refine con_intro (out := fun r : Int × Int => ((.tup [.int .u32 r.1, .int .u32 r.2] : V), ([] : List (Nat × Option O)))) (r := (m_math_bits_Mul32 x_ y)) Try.func87 rfl Try.ntmps87 rfl ?_
  refine run_seq ?_
  refine run_region (q_assign .n (.c rfl) rfl <| q_assign .n (.c rfl) rfl <| Lex.nil) ?_
  refine run_seq ?_
  refine run_region (q_move .n (.t rfl) rfl <| q_conv .n (.t rfl) cv_127_130 rfl <| q_move .n (.t rfl) rfl <| q_conv .n (.t rfl) cv_127_130 rfl <| q_int .n (.t rfl) (.t rfl) rfl rfl <| q_assign .n (.t rfl) rfl <| Lex.nil) ?_
  refine run_seq ?_
  refine run_region (q_move .n (.t rfl) rfl <| q_shr .n (.t rfl) (.c rfl) (fun _ => by omega) rfl <| q_conv .n (.t rfl) cv_130_127 rfl <| q_move .n (.t rfl) rfl <| q_conv .n (.t rfl) cv_130_127 rfl <| q_assign .n (.t rfl) rfl <| q_assign .n (.t rfl) rfl <| Lex.nil) ?_
  exact run_ret [] (.cons (.t rfl rfl) (.cons (.t rfl rfl) .nil)) rfl trivial rfl

/-! ### math_bits_Mul64 -/
theorem c_math_bits_Mul64 (x_ : Int) (y : Int) : Con Try.prog 88 [.int .u64 x_, .int .u64 y] [] (.tup [.int .u64 (m_math_bits_Mul64 x_ y).1, .int .u64 (m_math_bits_Mul64 x_ y).2]) ([]) := by
  refine con_intro (out := fun r : Int × Int => ((.tup [.int .u64 r.1, .int .u64 r.2] : V), ([] : List (Nat × Option O)))) (r := (m_math_bits_Mul64 x_ y)) Try.func88 rfl Try.ntmps88 rfl ?_
  refine run_seq ?_
  refine run_region (q_assign .n (.c rfl) rfl <| q_assign .n (.c rfl) rfl <| Lex.nil) ?_
  refine run_seq ?_
  refine run_region (q_move .n (.t rfl) rfl <| q_int .n (.t rfl) (.c rfl) rfl rfl <| q_assign .n (.t rfl) rfl <| Lex.nil) ?_
  refine run_seq ?_
  refine run_region (q_move .n (.t rfl) rfl <| q_shr .n (.t rfl) (.c rfl) (fun _ => by omega) rfl <| q_assign .n (.t rfl) rfl <| Lex.nil) ?_
  refine run_seq ?_
  refine run_region (q_move .n (.t rfl) rfl <| q_int .n (.t rfl) (.c rfl) rfl rfl <| q_assign .n (.t rfl) rfl <| Lex.nil) ?_
  refine run_seq ?_
  refine run_region (q_move .n (.t rfl) rfl <| q_shr .n (.t rfl) (.c rfl) (fun _ => by omega) rfl <| q_assign .n (.t rfl) rfl <| Lex.nil) ?_
  refine run_seq ?_
  refine run_region (q_move .n (.t rfl) rfl <| q_move .n (.t rfl) rfl <| q_int .n (.t rfl) (.t rfl) rfl rfl <| q_assign .n (.t rfl) rfl <| Lex.nil) ?_
  refine run_seq ?_
  refine run_region (q_move .n (.t rfl) rfl <| q_move .n (.t rfl) rfl <| q_int .n (.t rfl) (.t rfl) rfl rfl <| q_move .n (.t rfl) rfl <| q_shr .n (.t rfl) (.c rfl) (fun _ => by omega) rfl <| q_int .n (.t rfl) (.t rfl) rfl rfl <| q_assign .n (.t rfl) rfl <| Lex.nil) ?_
  refine run_seq ?_
  refine run_region (q_move .n (.t rfl) rfl <| q_int .n (.t rfl) (.c rfl) rfl rfl <| q_assign .n (.t rfl) rfl <| Lex.nil) ?_
  refine run_seq ?_
  refine run_region (q_move .n (.t rfl) rfl <| q_shr .n (.t rfl) (.c rfl) (fun _ => by omega) rfl <| q_assign .n (.t rfl) rfl <| Lex.nil) ?_
  refine run_seq ?_
  refine run_region (q_move .n (.t rfl) rfl <| q_move .n (.t rfl) rfl <| q_move .n (.t rfl) rfl <| q_int .n (.t rfl) (.t rfl) rfl rfl <| q_int .n (.t rfl) (.t rfl) rfl rfl <| q_assign .n (.t rfl) rfl <| Lex.nil) ?_
  refine run_seq ?_
  refine run_region (q_move .n (.t rfl) rfl <| q_move .n (.t rfl) rfl <| q_int .n (.t rfl) (.t rfl) rfl rfl <| q_move .n (.t rfl) rfl <| q_int .n (.t rfl) (.t rfl) rfl rfl <| q_move .n (.t rfl) rfl <| q_shr .n (.t rfl) (.c rfl) (fun _ => by omega) rfl <| q_int .n (.t rfl) (.t rfl) rfl rfl <| q_assign .n (.t rfl) rfl <| Lex.nil) ?_
  refine run_seq ?_
  refine run_region (q_move .n (.t rfl) rfl <| q_move .n (.t rfl) rfl <| q_int .n (.t rfl) (.t rfl) rfl rfl <| q_assign .n (.t rfl) rfl <| Lex.nil) ?_
  exact run_ret [] (.cons (.t rfl rfl) (.cons (.t rfl rfl) .nil)) rfl trivial rfl

/-! ### math_bits_Mul -/
theorem c_math_bits_Mul (x_ : Int) (y : Int) : Con Try.prog 82 [.int .u64 x_, .int .u64 y] [] (.tup [.int .u64 (m_math_bits_Mul x_ y).1, .int .u64 (m_math_bits_Mul x_ y).2]) ([]) := by
  refine con_intro (out := fun r : Int × Int => ((.tup [.int .u64 r.1, .int .u64 r.2] : V), ([] : List (Nat × Option O)))) (r := (m_math_bits_Mul x_ y)) Try.func82 rfl Try.ntmps82 rfl ?_
  refine run_seq ?_
  refine run_region (q_assign .n (.c rfl) rfl <| q_assign .n (.c rfl) rfl <| Lex.nil) ?_
  refine run_seq ?_
  refine run_cond (.c rfl) rfl (fun h1 => ?_) (fun h1 => ?_)
  · try simp only [Bool.and_eq_true, Bool.or_eq_true, Bool.not_eq_true', Bool.and_eq_false_iff, Bool.or_eq_false_iff, Bool.not_eq_false', decide_eq_true_eq, decide_eq_false_iff_not, beq_iff_eq, bne_iff_ne, beq_eq_false_iff_ne, bne_eq_false_iff_eq, Bool.true_and, ne_eq, Decidable.not_not, Int.not_lt, Int.not_le, Nat.not_lt, Nat.not_le, strB_nil, strB_nil', strB_nnil, strB_nnil'] at h1
    refine run_seq ?_
    refine run_region (q_move .n (.t rfl) rfl <| q_conv .n (.t rfl) cv_122_127 rfl <| q_move .n (.t rfl) rfl <| q_conv .n (.t rfl) cv_122_127 rfl <| q_call0 (full := false) .n .f en_87 (.cons (.t rfl) (.cons (.t rfl) .nil)) (.cons (.b (.a (.same rfl))) (.cons (.b (.a (.same rfl))) .nil)) (fun hg => c_math_bits_Mul32 (IntKind.wrap .u32 x_) (IntKind.wrap .u32 y)) rfl (fun h => Bool.noConfusion h) rfl <| q_move .n (.t rfl) rfl <| q_ext .n (.t rfl) rfl rfl rfl <| q_ext .n (.t rfl) rfl rfl rfl <| q_assign .n (.t rfl) rfl <| q_assign .n (.t rfl) rfl <| Lex.nil) ?_
    refine run_seq ?_
    refine run_region (q_move .n (.t rfl) rfl <| q_conv .n (.t rfl) cv_127_122 rfl <| q_move .n (.t rfl) rfl <| q_conv .n (.t rfl) cv_127_122 rfl <| q_assign .n (.t rfl) rfl <| q_assign .n (.t rfl) rfl <| Lex.nil) ?_
    exact run_ret [] (.cons (.t rfl rfl) (.cons (.t rfl rfl) .nil)) rfl trivial rfl
  · try simp only [Bool.and_eq_true, Bool.or_eq_true, Bool.not_eq_true', Bool.and_eq_false_iff, Bool.or_eq_false_iff, Bool.not_eq_false', decide_eq_true_eq, decide_eq_false_iff_not, beq_iff_eq, bne_iff_ne, beq_eq_false_iff_ne, bne_eq_false_iff_eq, Bool.true_and, ne_eq, Decidable.not_not, Int.not_lt, Int.not_le, Nat.not_lt, Nat.not_le, strB_nil, strB_nil', strB_nnil, strB_nnil'] at h1
    refine run_skip ?_
    refine run_seq ?_
    refine run_region (q_move .n (.t rfl) rfl <| q_move .n (.t rfl) rfl <| q_call0 (full := false) .n .f en_88 (.cons (.t rfl) (.cons (.t rfl) .nil)) (.cons (.b (.a (.same rfl))) (.cons (.b (.a (.same rfl))) .nil)) (fun hg => c_math_bits_Mul64 x_ y) rfl (fun h => Bool.noConfusion h) rfl <| q_move .n (.t rfl) rfl <| q_ext .n (.t rfl) rfl rfl rfl <| q_ext .n (.t rfl) rfl rfl rfl <| q_assign .n (.t rfl) rfl <| q_assign .n (.t rfl) rfl <| Lex.nil) ?_
    refine run_seq ?_
    refine run_region (q_move .n (.t rfl) rfl <| q_move .n (.t rfl) rfl <| q_assign .n (.t rfl) rfl <| q_assign .n (.t rfl) rfl <| Lex.nil) ?_
    exact run_ret [] (.cons (.t rfl rfl) (.cons (.t rfl rfl) .nil)) rfl trivial rfl

/-! ### slices_Repeat_int64 -/
theorem c_slices_Repeat_int64 (x_ : List Int) (count : Int) (hp1 : x_.length = 1) (hp2 : 1 ≤ count ∧ count ≤ 16) : Con Try.prog 65 [.sl 1 (x_.map (V.int .i64)), .int .i64 count] [] (.os 100 (m_slices_Repeat_int64 x_ count).length) ([(100, some (.row 2 1 ((m_slices_Repeat_int64 x_ count).map (V.int .i64))))]) := by
  refine con_intro (out := fun r : (List Int) => ((.os 100 r.length : V), ([(100, some (.row 2 1 (r.map (V.int .i64))))] : List (Nat × Option O)))) (r := (m_slices_Repeat_int64 x_ count)) Try.func65 rfl Try.ntmps65 rfl ?_
  have hM := mul_rep (n := (x_.length : Int)) (c := count) (by omega) hp2
  have hW := wr64 (n := count) (by omega)
  refine run_fact (t := 0) rfl fun hl => ?_
  have l1 := hl; clear hl; simp only [List.length_map] at l1
  refine run_seq ?_
  refine run_region (q_assign .n (.c rfl) rfl <| Lex.nil) ?_
  refine run_seq ?_
  refine run_seq ?_
  refine run_region (q_move .n (.t rfl) rfl <| q_int .n (.t rfl) (.c rfl) rfl rfl <| Lex.nil) ?_
  refine run_if (.t rfl) (fun h2 => ?_) (fun h2 => ?_)
  · try simp only [Bool.and_eq_true, Bool.or_eq_true, Bool.not_eq_true', Bool.and_eq_false_iff, Bool.or_eq_false_iff, Bool.not_eq_false', decide_eq_true_eq, decide_eq_false_iff_not, beq_iff_eq, bne_iff_ne, beq_eq_false_iff_ne, bne_eq_false_iff_eq, Bool.true_and, ne_eq, Decidable.not_not, Int.not_lt, Int.not_le, Nat.not_lt, Nat.not_le, strB_nil, strB_nil', strB_nnil, strB_nnil'] at h2
    exfalso; omega
  · try simp only [Bool.and_eq_true, Bool.or_eq_true, Bool.not_eq_true', Bool.and_eq_false_iff, Bool.or_eq_false_iff, Bool.not_eq_false', decide_eq_true_eq, decide_eq_false_iff_not, beq_iff_eq, bne_iff_ne, beq_eq_false_iff_ne, bne_eq_false_iff_eq, Bool.true_and, ne_eq, Decidable.not_not, Int.not_lt, Int.not_le, Nat.not_lt, Nat.not_le, strB_nil, strB_nil', strB_nnil, strB_nnil'] at h2
    refine run_skip ?_
    refine run_seq ?_
    refine run_region (q_move .n (.t rfl) rfl <| q_len .n (.t rfl) rfl len_map ss_25 rfl <| q_conv .n (.t rfl) cv_3_122 rfl <| q_move .n (.t rfl) rfl <| q_conv .n (.t rfl) cv_3_122 rfl <| q_call0 (full := false) .n .f en_82 (.cons (.t rfl) (.cons (.t rfl) .nil)) (.cons (.b (.a (.same rfl))) (.cons (.b (.a (.same rfl))) .nil)) (fun hg => c_math_bits_Mul (IntKind.wrap .u64 (x_.length : Int)) (IntKind.wrap .u64 count)) rfl (fun h => Bool.noConfusion h) rfl <| q_move .n (.t rfl) rfl <| q_ext .n (.t rfl) rfl rfl rfl <| q_ext .n (.t rfl) rfl rfl rfl <| q_assign .n (.t rfl) rfl <| q_assign .n (.t rfl) rfl <| Lex.nil) ?_
    refine run_seq ?_
    refine run_seq ?_
    refine run_region (q_move .n (.t rfl) rfl <| q_int .n (.t rfl) (.c rfl) rfl rfl <| q_move .n (.t rfl) rfl <| q_move (.f rfl rfl) (.t rfl) rfl <| q_int (.f rfl rfl) (.u rfl id) (.c rfl) rfl rfl <| q_or .n (.t rfl) (.u rfl id) rfl <| Lex.nil) ?_
    refine run_if (.t rfl) (fun h3 => ?_) (fun h3 => ?_)
    · try simp only [Bool.and_eq_true, Bool.or_eq_true, Bool.not_eq_true', Bool.and_eq_false_iff, Bool.or_eq_false_iff, Bool.not_eq_false', decide_eq_true_eq, decide_eq_false_iff_not, beq_iff_eq, bne_iff_ne, beq_eq_false_iff_ne, bne_eq_false_iff_eq, Bool.true_and, ne_eq, Decidable.not_not, Int.not_lt, Int.not_le, Nat.not_lt, Nat.not_le, strB_nil, strB_nil', strB_nnil, strB_nnil'] at h3
      exfalso; ((simp only [hM, hW, List.length_replicate] at *; omega))
    · try simp only [Bool.and_eq_true, Bool.or_eq_true, Bool.not_eq_true', Bool.and_eq_false_iff, Bool.or_eq_false_iff, Bool.not_eq_false', decide_eq_true_eq, decide_eq_false_iff_not, beq_iff_eq, bne_iff_ne, beq_eq_false_iff_ne, bne_eq_false_iff_eq, Bool.true_and, ne_eq, Decidable.not_not, Int.not_lt, Int.not_le, Nat.not_lt, Nat.not_le, strB_nil, strB_nil', strB_nnil, strB_nnil'] at h3
      refine run_skip ?_
      refine run_seq ?_
      refine run_region (q_move .n (.t rfl) rfl <| q_conv .n (.t rfl) cv_122_3 rfl <| q_makem (f := V.int .i64) (l := 200) (0 : Int) .n rfl (.t rfl) (.t rfl) si_25 zv_2 (by ((simp only [hM, hW, List.length_replicate] at *; omega))) rfl rfl rfl <| q_assign .n (.t rfl) rfl <| Lex.nil) ?_
      refine run_seq ?_
      refine run_region (q_move .n (.t rfl) rfl <| q_move .n (.t rfl) rfl <| q_copym (ys := x_) (off := 0) (m := (List.replicate (IntKind.wrap .i64 (m_math_bits_Mul (IntKind.wrap .u64 (x_.length : Int)) (IntKind.wrap .u64 count)).2 : Int).toNat (0 : Int)).length) .n rfl (.os (.t rfl)) rfl (by omega) (.ro (.t rfl)) sl_25 rfl rfl <| q_assign .n (.t rfl) rfl <| Lex.nil) ?_
      refine run_seq ?_
      refine run_block ?_
      refine run_LOOP (m_slices_Repeat_int64_b1 x_ count) _ _ _ rfl (fun (x1 : (List Int) × Int) => (x1.1.length : Int) = count ∧ (1 ≤ x1.2 ∧ x1.2 ≤ count)) (fun x1 => (x1.1.length : Int) = count ∧ (1 ≤ x1.2 ∧ x1.2 ≤ count)) (fun x1 => (count - x1.2 : Int).toNat) (fun x1 => ⟨[(7, some (true, .os 200 x1.1.length)), (8, some (true, .int .i64 x1.2))], [(200, some (.row 2 1 (x1.1.map (V.int .i64))))]⟩) (fun x1 => ⟨[(7, some (true, .os 200 x1.1.length))], [(200, some (.row 2 1 (x1.1.map (V.int .i64))))]⟩) ⟨by ((dsimp only; rw [cpy_len (by simp only [List.length_take, List.length_replicate, hM, hW] at *; omega)]; simp only [List.length_replicate, hM, hW]; omega)), by ((simp only [hM, hW, List.length_replicate] at *; omega))⟩ (by omega) (sub_of [] ⟨os_len rfl (by first | (simp only [put_len]; done) | (((rw [cpy_len (by simp only [List.length_take] at *; omega)]; done)))), rfl, trivial⟩ ⟨rfl, trivial⟩ rfl) ?_ ?_
      · intro x1 i7
        obtain ⟨e8, e9⟩ := i7
        try dsimp only at *
        refine run_seq ?_
        refine run_region (q_move .n (.t rfl) rfl <| q_assign .n (.t rfl) rfl <| Lex.nil) ?_
        exact run_ret [(100, 200)] (.cons (.t rfl rfl) .nil) (by first | rfl | (simp only [put_len]; rfl)) ⟨rfl, trivial⟩ rfl
      · intro rec1 k1 hk4 x1 i5
        obtain ⟨e10, e11⟩ := i5
        try dsimp only at *
        refine run_seq ?_
        refine run_seq ?_
        refine run_region (q_move .n (.t rfl) rfl <| q_move .n (.t rfl) rfl <| q_len .n (.t rfl) rfl rfl ss_25 rfl <| q_int .n (.t rfl) (.t rfl) rfl rfl <| Lex.nil) ?_
        refine run_cond (.t rfl) rfl (fun h6 => ?_) (fun h6 => ?_)
        · try simp only [Bool.and_eq_true, Bool.or_eq_true, Bool.not_eq_true', Bool.and_eq_false_iff, Bool.or_eq_false_iff, Bool.not_eq_false', decide_eq_true_eq, decide_eq_false_iff_not, beq_iff_eq, bne_iff_ne, beq_eq_false_iff_ne, bne_eq_false_iff_eq, Bool.true_and, ne_eq, Decidable.not_not, Int.not_lt, Int.not_le, Nat.not_lt, Nat.not_le, strB_nil, strB_nil', strB_nnil, strB_nnil'] at h6
          refine run_skip ?_
          refine run_block ?_
          refine run_draw fmo (q_move .n (.t rfl) rfl <| q_move .n (.t rfl) rfl <| q_move .n (.t rfl) rfl <| q_cut_oss (x1.1.length : Int) .n (.t rfl) (.s (.t rfl)) .n sl_25 rfl (fun _ => by omega) rfl <| q_move .n (.t rfl) rfl <| q_move .n (.t rfl) rfl <| q_cut_owm (xs := x1.1) (b := x1.2) .n (.t rfl) (.s (.t rfl)) sl_25 (fun _ => by omega) rfl <| q_copym (ys := pre' x1.1 x1.2) (off := x1.2.toNat) (m := ((x1.1.length : Int).toNat - x1.2.toNat)) .n rfl (.oss (.t rfl)) rfl (by omega) (.ow (.t rfl) rfl pre_map (by simp only [len_map, pre_len])) sl_25 rfl rfl <| q_int .n (.t rfl) (.t rfl) rfl rfl <| q_assign .n (.t rfl) rfl <| Lex.nil) (by kernel_rfl) ?_
          refine run_endB ?_
          exact run_again (cpy x1.1 (x1.2.toNat) ((pre' x1.1 x1.2).take (min (pre' x1.1 x1.2).length ((x1.1.length : Int).toNat - x1.2.toNat))), IntKind.wrap .i64 (x1.2 + (((min (pre' x1.1 x1.2).length ((x1.1.length : Int).toNat - x1.2.toNat)) : Nat) : Int))) ⟨by ((have hq := rep_step (by assumption) (by assumption) hp2.2 (by assumption); dsimp only at hq ⊢; omega)), by ((have hq := rep_step (by assumption) (by assumption) hp2.2 (by assumption); dsimp only at hq ⊢; omega))⟩ (by ((have hq := rep_step (by assumption) (by assumption) hp2.2 (by assumption); dsimp only at hq ⊢; omega))) (sub_of [] ⟨os_len rfl (by first | (simp only [put_len]; done) | (((have hq := rep_step (by assumption) (by assumption) hp2.2 (by assumption); dsimp only at hq ⊢; omega)))), rfl, trivial⟩ ⟨rfl, trivial⟩ rfl)
        · try simp only [Bool.and_eq_true, Bool.or_eq_true, Bool.not_eq_true', Bool.and_eq_false_iff, Bool.or_eq_false_iff, Bool.not_eq_false', decide_eq_true_eq, decide_eq_false_iff_not, beq_iff_eq, bne_iff_ne, beq_eq_false_iff_ne, bne_eq_false_iff_eq, Bool.true_and, ne_eq, Decidable.not_not, Int.not_lt, Int.not_le, Nat.not_lt, Nat.not_le, strB_nil, strB_nil', strB_nnil, strB_nnil'] at h6
          refine run_exit rfl ?_
          exact run_cont hk4 (x1.1, x1.2) ⟨by omega, by omega⟩ (sub_of [] ⟨rfl, trivial⟩ ⟨rfl, trivial⟩ rfl)

/-! ### impl_escape_mayBe -/
theorem c_impl_escape_mayBe (e : gescape) (junction : Int) (second : Int) (hp1 : 0 ≤ junction ∧ junction < e.arrivals.length) : Con Try.prog 66 [.st [.int .i64 e.mine.Junctions, .sl 7 (e.mine.Airways.map gAirway.v), .sl 1 (e.arrivals.map (V.int .i64)), .int .i64 e.blocked], .int .i64 junction, .int .i64 second] [] (.bool (m_impl_escape_mayBe e junction second)) ([]) := by
  refine con_intro (out := fun r : Bool => ((.bool r : V), ([] : List (Nat × Option O)))) (r := (m_impl_escape_mayBe e junction second)) Try.func66 rfl Try.ntmps66 rfl ?_
  refine run_factS (t := 0) 1 rfl rfl fun hl => ?_
  have l1 := hl; clear hl; simp only [List.length_map] at l1
  refine run_factS (t := 0) 2 rfl rfl fun hl => ?_
  have l2 := hl; clear hl; simp only [List.length_map] at l2
  refine run_seq ?_
  refine run_region (q_box (l := 200) .n rfl (.t rfl) rfl rfl rfl rfl <| q_assign .n (.c rfl) rfl <| Lex.nil) ?_
  refine run_seq ?_
  refine run_region (q_fld_ow .n (.t rfl) fo_78_1 rfl <| q_ld1_ow .n (.t rfl) rfl (.inr rfl) (fun _ => rfl) rfl ic_25 rfl <| q_move .n (.t rfl) rfl <| q_idx_rm .n (.t rfl) (.t rfl) sl_25 (fun _ => by omega) rfl <| q_ld1_ro .n (.t rfl) rfl ic_2 rfl <| q_int .n (.t rfl) (.c rfl) rfl rfl <| q_move .n (.t rfl) rfl <| q_fld_ow (.f rfl rfl) (.t rfl) fo_78_1 rfl <| q_ld1_ow (.f rfl rfl) (.u rfl id) rfl (.inr rfl) (fun _ => rfl) rfl ic_25 rfl <| q_move (.f rfl rfl) (.t rfl) rfl <| q_idx_rm (.f rfl rfl) (.u rfl id) (.u rfl id) sl_25 (fun hg => by simp only [Bool.and_eq_true, Bool.or_eq_true, Bool.not_eq_true', Bool.and_eq_false_iff, Bool.or_eq_false_iff, Bool.not_eq_false', decide_eq_true_eq, decide_eq_false_iff_not, beq_iff_eq, bne_iff_ne, beq_eq_false_iff_ne, bne_eq_false_iff_eq, Bool.true_and, ne_eq, Decidable.not_not, Int.not_lt, Int.not_le, Nat.not_lt, Nat.not_le, strB_nil, strB_nil', strB_nnil, strB_nnil'] at hg; omega) rfl <| q_ld1_ro (.f rfl rfl) (.u rfl id) rfl ic_2 rfl <| q_move (.f rfl rfl) (.t rfl) rfl <| q_int (.f rfl rfl) (.u rfl id) (.u rfl id) rfl rfl <| q_or .n (.t rfl) (.u rfl id) rfl <| q_assign .n (.t rfl) rfl <| Lex.nil) ?_
  exact run_ret [] (.cons (.t rfl rfl) .nil) rfl trivial rfl

/-! ### impl_divUp -/
theorem c_impl_divUp (a : Int) (b : Int) (hp1 : ¬ b = 0) : Con Try.prog 83 [.int .i64 a, .int .i64 b] [] (.int .i64 (m_impl_divUp a b)) ([]) := by
  refine con_intro (out := fun r : Int => ((.int .i64 r : V), ([] : List (Nat × Option O)))) (r := (m_impl_divUp a b)) Try.func83 rfl Try.ntmps83 rfl ?_
  refine run_seq ?_
  refine run_region (q_assign .n (.c rfl) rfl <| Lex.nil) ?_
  refine run_seq ?_
  refine run_region (q_move .n (.t rfl) rfl <| q_move .n (.t rfl) rfl <| q_int .n (.t rfl) (.t rfl) rfl rfl <| q_int .n (.t rfl) (.c rfl) rfl rfl <| q_move .n (.t rfl) rfl <| q_quo .n (.t rfl) (.t rfl) (fun hg => by omega) rfl <| q_assign .n (.t rfl) rfl <| Lex.nil) ?_
  exact run_ret [] (.cons (.t rfl rfl) .nil) rfl trivial rfl

/-! ### impl_Airway_walkTime -/
theorem c_impl_Airway_walkTime (a : gAirway) (speed : Int) (hp1 : 10 ≤ speed ∧ speed ≤ 300) : Con Try.prog 67 [.st [.str a.Id, .int .i64 a.From, .int .i64 a.To, .int .i64 a.Length, .int .i64 a.Section, .int .i64 a.Friction, .int .i64 a.Shock], .int .i64 speed] [] (.int .i64 (m_impl_Airway_walkTime a speed)) ([]) := by
  refine con_intro (out := fun r : Int => ((.int .i64 r : V), ([] : List (Nat × Option O)))) (r := (m_impl_Airway_walkTime a speed)) Try.func67 rfl Try.ntmps67 rfl ?_
  refine run_seq ?_
  refine run_region (q_box (l := 200) .n rfl (.t rfl) rfl rfl rfl rfl <| q_assign .n (.c rfl) rfl <| Lex.nil) ?_
  refine run_seq ?_
  refine run_region (q_fld_ow .n (.t rfl) fo_99_3 rfl <| q_ld1_ow .n (.t rfl) rfl (.inr rfl) (fun _ => rfl) rfl ic_2 rfl <| q_int .n (.c rfl) (.t rfl) rfl rfl <| q_move .n (.t rfl) rfl <| q_call0 (full := false) .n .f en_83 (.cons (.t rfl) (.cons (.t rfl) .nil)) (.cons (.b (.a (.same rfl))) (.cons (.b (.a (.same rfl))) .nil)) (fun hg => c_impl_divUp (IntKind.wrap .i64 (100 * a.Length)) speed (by omega)) rfl (fun h => Bool.noConfusion h) rfl <| q_assign .n (.t rfl) rfl <| Lex.nil) ?_
  exact run_ret [] (.cons (.t rfl rfl) .nil) rfl trivial rfl

/-! ### impl_escape_times -/
set_option maxHeartbeats 4000000 in
theorem c_impl_escape_times (e : gescape) (c_ : gCrew) (start : Int) (hp1 : MineIn e.mine) (hp2 : (e.arrivals.length : Int) = e.mine.Junctions) (hp3 : CrewIn e.mine c_) (hp4 : 0 ≤ start ∧ start ≤ 36000) : Con Try.prog 40 [.st [.int .i64 e.mine.Junctions, .sl 7 (e.mine.Airways.map gAirway.v), .sl 1 (e.arrivals.map (V.int .i64)), .int .i64 e.blocked], .st [.str c_.Id, .int .i64 c_.Junction, .int .i64 c_.Speed], .int .i64 start] [] (.os 100 (m_impl_escape_times e c_ start).length) ([(100, some (.row 2 1 ((m_impl_escape_times e c_ start).map (V.int .i64))))]) := by
  refine con_intro (out := fun r : (List Int) => ((.os 100 r.length : V), ([(100, some (.row 2 1 (r.map (V.int .i64))))] : List (Nat × Option O)))) (r := (m_impl_escape_times e c_ start)) Try.func40 rfl Try.ntmps40 rfl ?_
  have hRl := rep_len hp1.1
  have hJ := hp1.1
  have hA := hp1.2.1
  have hC1 := hp3.1
  have hC2 := hp3.2
  have hJ1 := hp1.1
  have hA1 := hp1.2.1
  refine run_factS (t := 0) 1 rfl rfl fun hl => ?_
  have l1 := hl; clear hl; simp only [List.length_map] at l1
  refine run_factS (t := 0) 2 rfl rfl fun hl => ?_
  have l2 := hl; clear hl; simp only [List.length_map] at l2
  refine run_seq ?_
  refine run_region (q_box (l := 200) .n rfl (.t rfl) rfl rfl rfl rfl <| q_box (l := 201) .n rfl (.t rfl) rfl rfl rfl rfl <| q_assign .n (.c rfl) rfl <| Lex.nil) ?_
  refine run_seq ?_
  refine run_region (q_bslicem ([(-1)] : List Int) (f := V.int .i64) (l := 202) .n rfl rfl (.cons (.c rfl) .nil) rfl si_25 zv_2 rfl rfl rfl <| q_fld_ow .n (.t rfl) fo_78_0 rfl <| q_fld_ow .n (.t rfl) fo_35_0 rfl <| q_ld1_ow .n (.t rfl) rfl (.inr rfl) (fun _ => rfl) rfl ic_2 rfl <| q_callM (full := true) [] [(100, 203)] .n rfl .f en_65 (.cons (.t rfl) (.cons (.t rfl) .nil)) (.cons (.b (.a (.own rfl rfl rfl (take_all (by simp only [len_map, put_len] <;> rfl)) (by simp only [len_map, put_len] <;> rfl)))) (.cons (.b (.a (.same rfl))) .nil)) (c_slices_Repeat_int64 ([(-1)] : List Int) e.mine.Junctions (by (simp only [List.length_append, List.length_cons, List.length_nil, List.length_replicate, put_len] at * <;> omega)) (by omega)) trivial rfl rfl (fun _ => rfl) (fun _ => (hr_row (fun _ => rfl) hr_nil)) rfl <| q_assign .n (.t rfl) rfl <| Lex.nil) ?_
  refine run_seq ?_
  refine run_seq ?_
  refine run_region (q_ldN_ow .n (.t rfl) rfl (.inr rfl) ag_78 (fun _ => rfl) rfl rfl <| q_fld_ow .n (.t rfl) fo_71_1 rfl <| q_ld1_ow .n (.t rfl) rfl (.inr rfl) (fun _ => rfl) rfl ic_2 rfl <| q_move .n (.t rfl) rfl <| q_call0 (full := false) .n .f en_66 (.cons (.t rfl) (.cons (.t rfl) (.cons (.t rfl) .nil))) (.cons (.sts rfl) (.cons (.b (.a (.same rfl))) (.cons (.b (.a (.same rfl))) .nil))) (fun hg => c_impl_escape_mayBe e c_.Junction start (by omega)) rfl (fun h => Bool.noConfusion h) rfl <| q_not .n (.t rfl) rfl <| Lex.nil) ?_
  refine run_cond (.t rfl) rfl (fun h3 => ?_) (fun h3 => ?_)
  · try simp only [Bool.and_eq_true, Bool.or_eq_true, Bool.not_eq_true', Bool.and_eq_false_iff, Bool.or_eq_false_iff, Bool.not_eq_false', decide_eq_true_eq, decide_eq_false_iff_not, beq_iff_eq, bne_iff_ne, beq_eq_false_iff_ne, bne_eq_false_iff_eq, Bool.true_and, ne_eq, Decidable.not_not, Int.not_lt, Int.not_le, Nat.not_lt, Nat.not_le, strB_nil, strB_nil', strB_nnil, strB_nnil'] at h3
    refine run_seq ?_
    refine run_region (q_move .n (.t rfl) rfl <| q_assign .n (.t rfl) rfl <| Lex.nil) ?_
    exact run_ret [(100, 203)] (.cons (.t rfl rfl) .nil) (by first | rfl | (simp only [put_len]; rfl)) ⟨rfl, trivial⟩ rfl
  · try simp only [Bool.and_eq_true, Bool.or_eq_true, Bool.not_eq_true', Bool.and_eq_false_iff, Bool.or_eq_false_iff, Bool.not_eq_false', decide_eq_true_eq, decide_eq_false_iff_not, beq_iff_eq, bne_iff_ne, beq_eq_false_iff_ne, bne_eq_false_iff_eq, Bool.true_and, ne_eq, Decidable.not_not, Int.not_lt, Int.not_le, Nat.not_lt, Nat.not_le, strB_nil, strB_nil', strB_nnil, strB_nnil'] at h3
    refine run_skip ?_
    refine run_seq ?_
    refine run_region (q_move .n (.t rfl) rfl <| q_fld_ow .n (.t rfl) fo_71_1 rfl <| q_ld1_ow .n (.t rfl) rfl (.inr rfl) (fun _ => rfl) rfl ic_2 rfl <| q_move .n (.t rfl) rfl <| q_idx_ow .n (.t rfl) (.t rfl) sl_25 (fun _ => by omega) rfl <| q_st_rowm start .n rfl (.t rfl) (.t rfl) rfl ts_2 (by omega) rfl rfl <| Lex.nil) ?_
    refine run_seq ?_
    refine run_seq ?_
    refine run_region (q_assign .n (.c rfl) rfl <| Lex.nil) ?_
    refine run_block ?_
    refine run_LOOP (m_impl_escape_times_b1 e c_ start) _ _ _ rfl (fun (x1 : (List Int) × Bool) => SmB e.mine.Junctions x1.1) (fun x1 => SmB e.mine.Junctions x1.1) (fun x1 => pot x1.1 + (bif x1.2 then 1 else 0)) (fun x1 => ⟨[(3, some (true, .op 200 0 0 0)), (4, some (true, .op 201 0 0 0)), (7, some (true, .os 203 x1.1.length)), (8, some (true, .bool x1.2))], [(200, some (.box 78 [.int .i64 e.mine.Junctions, .sl 7 (e.mine.Airways.map gAirway.v), .sl 1 (e.arrivals.map (V.int .i64)), .int .i64 e.blocked])), (201, some (.box 71 [.str c_.Id, .int .i64 c_.Junction, .int .i64 c_.Speed])), (203, some (.row 2 1 (x1.1.map (V.int .i64))))]⟩) (fun x1 => ⟨[(7, some (true, .os 203 x1.1.length))], [(203, some (.row 2 1 (x1.1.map (V.int .i64))))]⟩) (by (exact cw_start hp1 hp3 hp4)) (by (exact cw_pot hp1 hp3 hp4)) (sub_of [] ⟨rfl, rfl, os_len rfl (by first | (simp only [put_len]; done) | (first | omega | assumption | (simp only [List.length_append, List.length_cons, List.length_nil, List.length_replicate, put_len] at * <;> omega) | ((exact cw_start hp1 hp3 hp4); done) | ((exact cw_pot hp1 hp3 hp4); done) | ((exact SmI.refl (by assumption)); done) | ((exact SmI.mu (by assumption) (by assumption)); done) | ((exact And.left (by assumption)); done) | (((have hS : SmI e.mine.Junctions x1.1 x3.1 x3.2.1 := (by assumption); have hl := hS.1.1; have hw0 := hp1.at (i := x2.2.2) (by omega); unfold AirIn at hw0; have hw1 := at2 hw0 (q := x3.2.2) (by omega); omega)); done) | (((have hS : SmI e.mine.Junctions x1.1 x3.1 x3.2.1 := (by assumption); have hl := hS.1.1; exact times_put hp1 hp3.2 hS (by omega) (by omega) (by assumption))); done))), rfl, trivial⟩ ⟨rfl, rfl, rfl, trivial⟩ rfl) ?_ ?_
    · intro x1 i32
      have e33 := i32
      try dsimp only at *
      refine run_seq ?_
      refine run_region (q_move .n (.t rfl) rfl <| q_assign .n (.t rfl) rfl <| Lex.nil) ?_
      exact run_ret [(100, 203)] (.cons (.t rfl rfl) .nil) (by first | rfl | (simp only [put_len]; rfl)) ⟨rfl, trivial⟩ rfl
    · intro rec1 k1 hk4 x1 i5
      have e34 := i5
      try dsimp only at *
      refine run_seq ?_
      refine run_seq ?_
      refine run_region (q_move .n (.t rfl) rfl <| Lex.nil) ?_
      refine run_cond (.t rfl) rfl (fun h6 => ?_) (fun h6 => ?_)
      · try simp only [Bool.and_eq_true, Bool.or_eq_true, Bool.not_eq_true', Bool.and_eq_false_iff, Bool.or_eq_false_iff, Bool.not_eq_false', decide_eq_true_eq, decide_eq_false_iff_not, beq_iff_eq, bne_iff_ne, beq_eq_false_iff_ne, bne_eq_false_iff_eq, Bool.true_and, ne_eq, Decidable.not_not, Int.not_lt, Int.not_le, Nat.not_lt, Nat.not_le, strB_nil, strB_nil', strB_nnil, strB_nnil'] at h6
        refine run_skip ?_
        refine run_block ?_
        refine run_seq ?_
        refine run_region (q_assign .n (.c rfl) rfl <| Lex.nil) ?_
        refine run_seq ?_
        refine run_region (q_fld_ow .n (.t rfl) fo_78_0 rfl <| q_fld_ow .n (.t rfl) fo_35_1 rfl <| q_ld1_ow .n (.t rfl) rfl (.inr rfl) (fun _ => rfl) rfl ic_33 rfl <| q_len .n (.t rfl) rfl len_map ss_33 rfl <| q_move .n (.c rfl) rfl <| Lex.nil) ?_
        refine run_block ?_
        refine run_LOOP (m_impl_escape_times_b2 e c_ start rec1 k1 x1) _ _ _ rfl (fun (x2 : (List Int) × Bool × Int) => 0 ≤ x2.2.2 ∧ x2.2.2 ≤ (e.mine.Airways.length : Int) ∧ SmI e.mine.Junctions x1.1 x2.1 x2.2.1) (fun x2 => 0 ≤ x2.2.2 ∧ x2.2.2 ≤ (e.mine.Airways.length : Int) ∧ SmI e.mine.Junctions x1.1 x2.1 x2.2.1 ∧ (e.mine.Airways.length : Int) ≤ x2.2.2) (fun x2 => ((e.mine.Airways.length : Int) - x2.2.2 : Int).toNat) (fun x2 => ⟨[(3, some (true, .op 200 0 0 0)), (4, some (true, .op 201 0 0 0)), (7, some (true, .os 203 x2.1.length)), (8, some (true, .bool x2.2.1)), (35, some (true, .sl 7 (e.mine.Airways.map gAirway.v))), (36, some (true, .int .i64 (e.mine.Airways.length : Int))), (37, some (true, .int .i64 x2.2.2))], [(200, some (.box 78 [.int .i64 e.mine.Junctions, .sl 7 (e.mine.Airways.map gAirway.v), .sl 1 (e.arrivals.map (V.int .i64)), .int .i64 e.blocked])), (201, some (.box 71 [.str c_.Id, .int .i64 c_.Junction, .int .i64 c_.Speed])), (203, some (.row 2 1 (x2.1.map (V.int .i64))))]⟩) (fun x2 => ⟨[(3, some (true, .op 200 0 0 0)), (4, some (true, .op 201 0 0 0)), (7, some (true, .os 203 x2.1.length)), (8, some (true, .bool x2.2.1))], [(200, some (.box 78 [.int .i64 e.mine.Junctions, .sl 7 (e.mine.Airways.map gAirway.v), .sl 1 (e.arrivals.map (V.int .i64)), .int .i64 e.blocked])), (201, some (.box 71 [.str c_.Id, .int .i64 c_.Junction, .int .i64 c_.Speed])), (203, some (.row 2 1 (x2.1.map (V.int .i64))))]⟩) ⟨by (simp only [List.length_append, List.length_cons, List.length_nil, List.length_replicate, put_len] at * <;> omega), by (simp only [List.length_append, List.length_cons, List.length_nil, List.length_replicate, put_len] at * <;> omega), by (exact SmI.refl (by assumption))⟩ (by (simp only [List.length_append, List.length_cons, List.length_nil, List.length_replicate, put_len] at * <;> omega)) (sub_of [] ⟨rfl, rfl, rfl, rfl, rfl, rfl, rfl, trivial⟩ ⟨rfl, rfl, rfl, trivial⟩ rfl) ?_ ?_
        · intro x2 i24
          obtain ⟨e25, e26, e27, e28⟩ := i24
          try dsimp only at *
          refine run_endB ?_
          exact run_again (x2.1, x2.2.1) (by (exact And.left (by assumption))) (by (exact SmI.mu (by assumption) (by assumption))) (sub_of [] ⟨rfl, rfl, rfl, rfl, trivial⟩ ⟨rfl, rfl, rfl, trivial⟩ rfl)
        · intro rec2 k2 hk7 x2 i8
          obtain ⟨e29, e30, e31⟩ := i8
          try dsimp only at *
          refine run_seq ?_
          refine run_region (q_int .n (.t rfl) (.t rfl) rfl rfl <| Lex.nil) ?_
          refine run_seq ?_
          refine run_cond (.t rfl) rfl (fun h9 => ?_) (fun h9 => ?_)
          · try simp only [Bool.and_eq_true, Bool.or_eq_true, Bool.not_eq_true', Bool.and_eq_false_iff, Bool.or_eq_false_iff, Bool.not_eq_false', decide_eq_true_eq, decide_eq_false_iff_not, beq_iff_eq, bne_iff_ne, beq_eq_false_iff_ne, bne_eq_false_iff_eq, Bool.true_and, ne_eq, Decidable.not_not, Int.not_lt, Int.not_le, Nat.not_lt, Nat.not_le, strB_nil, strB_nil', strB_nnil, strB_nnil'] at h9
            refine run_skip ?_
            refine run_seq ?_
            refine run_block ?_
            refine run_seq ?_
            refine run_region (q_move .n (.t rfl) rfl <| q_idx_rm .n (.t rfl) (.t rfl) sl_33 (fun _ => by omega) rfl <| q_ldN_ro .n (.t rfl) ag_99 rfl rfl rfl <| q_alloc (l := 204) .n rfl zv_99 rfl rfl <| q_assign .n (.t rfl) rfl <| q_st_boxm [.str (at' e.mine.Airways x2.2.2).Id, .int .i64 (at' e.mine.Airways x2.2.2).From, .int .i64 (at' e.mine.Airways x2.2.2).To, .int .i64 (at' e.mine.Airways x2.2.2).Length, .int .i64 (at' e.mine.Airways x2.2.2).Section, .int .i64 (at' e.mine.Airways x2.2.2).Friction, .int .i64 (at' e.mine.Airways x2.2.2).Shock] .n rfl (.t rfl) (.t rfl) rfl ts_99 rfl rfl <| Lex.nil) ?_
            refine run_seq ?_
            refine run_region (q_fld_ow .n (.t rfl) fo_99_1 rfl <| q_ld1_ow .n (.t rfl) rfl (.inr rfl) (fun _ => rfl) rfl ic_2 rfl <| q_fld_ow .n (.t rfl) fo_99_2 rfl <| q_ld1_ow .n (.t rfl) rfl (.inr rfl) (fun _ => rfl) rfl ic_2 rfl <| q_builda (us := [.int .i64 (at' e.mine.Airways x2.2.2).From, .int .i64 (at' e.mine.Airways x2.2.2).To]) .n (.cons (.t rfl) (.cons (.t rfl) .nil)) zv_109 ae_109 rfl rfl rfl <| q_fld_ow .n (.t rfl) fo_99_2 rfl <| q_ld1_ow .n (.t rfl) rfl (.inr rfl) (fun _ => rfl) rfl ic_2 rfl <| q_fld_ow .n (.t rfl) fo_99_1 rfl <| q_ld1_ow .n (.t rfl) rfl (.inr rfl) (fun _ => rfl) rfl ic_2 rfl <| q_builda (us := [.int .i64 (at' e.mine.Airways x2.2.2).To, .int .i64 (at' e.mine.Airways x2.2.2).From]) .n (.cons (.t rfl) (.cons (.t rfl) .nil)) zv_109 ae_109 rfl rfl rfl <| q_builda (us := [.int .i64 (at' e.mine.Airways x2.2.2).From, .int .i64 (at' e.mine.Airways x2.2.2).To, .int .i64 (at' e.mine.Airways x2.2.2).To, .int .i64 (at' e.mine.Airways x2.2.2).From]) .n (.cons (.t rfl) (.cons (.t rfl) .nil)) zv_110 ae_110 rfl rfl rfl <| q_move .n (.c rfl) rfl <| Lex.nil) ?_
            refine run_block ?_
            refine run_LOOP (m_impl_escape_times_b3 e c_ start rec1 k1 x1 rec2 k2 x2) _ _ _ rfl (fun (x3 : (List Int) × Bool × Int) => 0 ≤ x3.2.2 ∧ x3.2.2 ≤ 2 ∧ x3.1.length = x2.1.length ∧ SmI e.mine.Junctions x1.1 x3.1 x3.2.1) (fun x3 => 0 ≤ x3.2.2 ∧ x3.2.2 ≤ 2 ∧ x3.1.length = x2.1.length ∧ SmI e.mine.Junctions x1.1 x3.1 x3.2.1 ∧ 2 ≤ x3.2.2) (fun x3 => (2 - x3.2.2 : Int).toNat) (fun x3 => ⟨[(3, some (true, .op 200 0 0 0)), (4, some (true, .op 201 0 0 0)), (7, some (true, .os 203 x3.1.length)), (8, some (true, .bool x3.2.1)), (9, some (true, .int .i64 x2.2.2)), (10, some (true, .op 204 0 0 0)), (35, some (true, .sl 7 (e.mine.Airways.map gAirway.v))), (36, some (true, .int .i64 (e.mine.Airways.length : Int))), (37, some (true, .int .i64 x2.2.2)), (52, some (true, .st [.int .i64 (at' e.mine.Airways x2.2.2).From, .int .i64 (at' e.mine.Airways x2.2.2).To, .int .i64 (at' e.mine.Airways x2.2.2).To, .int .i64 (at' e.mine.Airways x2.2.2).From])), (53, some (true, .int .i64 x3.2.2))], [(200, some (.box 78 [.int .i64 e.mine.Junctions, .sl 7 (e.mine.Airways.map gAirway.v), .sl 1 (e.arrivals.map (V.int .i64)), .int .i64 e.blocked])), (201, some (.box 71 [.str c_.Id, .int .i64 c_.Junction, .int .i64 c_.Speed])), (203, some (.row 2 1 (x3.1.map (V.int .i64)))), (204, some (.box 99 [.str (at' e.mine.Airways x2.2.2).Id, .int .i64 (at' e.mine.Airways x2.2.2).From, .int .i64 (at' e.mine.Airways x2.2.2).To, .int .i64 (at' e.mine.Airways x2.2.2).Length, .int .i64 (at' e.mine.Airways x2.2.2).Section, .int .i64 (at' e.mine.Airways x2.2.2).Friction, .int .i64 (at' e.mine.Airways x2.2.2).Shock]))]⟩) (fun x3 => ⟨[(3, some (true, .op 200 0 0 0)), (4, some (true, .op 201 0 0 0)), (7, some (true, .os 203 x3.1.length)), (8, some (true, .bool x3.2.1)), (35, some (true, .sl 7 (e.mine.Airways.map gAirway.v))), (36, some (true, .int .i64 (e.mine.Airways.length : Int))), (37, some (true, .int .i64 x2.2.2))], [(200, some (.box 78 [.int .i64 e.mine.Junctions, .sl 7 (e.mine.Airways.map gAirway.v), .sl 1 (e.arrivals.map (V.int .i64)), .int .i64 e.blocked])), (201, some (.box 71 [.str c_.Id, .int .i64 c_.Junction, .int .i64 c_.Speed])), (203, some (.row 2 1 (x3.1.map (V.int .i64))))]⟩) ⟨by (simp only [List.length_append, List.length_cons, List.length_nil, List.length_replicate, put_len] at * <;> omega), by (simp only [List.length_append, List.length_cons, List.length_nil, List.length_replicate, put_len] at * <;> omega), by (simp only [List.length_append, List.length_cons, List.length_nil, List.length_replicate, put_len] at * <;> omega), by omega⟩ (by (simp only [List.length_append, List.length_cons, List.length_nil, List.length_replicate, put_len] at * <;> omega)) (sub_of [] ⟨rfl, rfl, rfl, rfl, rfl, rfl, rfl, rfl, rfl, rfl, rfl, trivial⟩ ⟨rfl, rfl, rfl, rfl, trivial⟩ rfl) ?_ ?_
            · intro x3 i14
              obtain ⟨e15, e16, e17, e18, e19⟩ := i14
              try dsimp only at *
              refine run_endB ?_
              refine run_region (q_add .n (.t rfl) (.c rfl) (fun _ => by omega) rfl <| q_move .n (.t rfl) rfl <| Lex.nil) ?_
              exact run_again (x3.1, x3.2.1, x2.2.2 + 1) ⟨by (simp only [List.length_append, List.length_cons, List.length_nil, List.length_replicate, put_len] at * <;> omega), by assumption, by omega⟩ (by (simp only [List.length_append, List.length_cons, List.length_nil, List.length_replicate, put_len] at * <;> omega)) (sub_of [] ⟨rfl, rfl, rfl, rfl, rfl, rfl, rfl, trivial⟩ ⟨rfl, rfl, rfl, trivial⟩ rfl)
            · intro rec3 k3 hk10 x3 i11
              obtain ⟨e20, e21, e22, e23⟩ := i11
              try dsimp only at *
              refine run_seq ?_
              refine run_region (q_int .n (.t rfl) (.c rfl) rfl rfl <| Lex.nil) ?_
              refine run_seq ?_
              refine run_cond (.t rfl) rfl (fun h12 => ?_) (fun h12 => ?_)
              · try simp only [Bool.and_eq_true, Bool.or_eq_true, Bool.not_eq_true', Bool.and_eq_false_iff, Bool.or_eq_false_iff, Bool.not_eq_false', decide_eq_true_eq, decide_eq_false_iff_not, beq_iff_eq, bne_iff_ne, beq_eq_false_iff_ne, bne_eq_false_iff_eq, Bool.true_and, ne_eq, Decidable.not_not, Int.not_lt, Int.not_le, Nat.not_lt, Nat.not_le, strB_nil, strB_nil', strB_nnil, strB_nnil'] at h12
                refine run_skip ?_
                refine run_seq ?_
                refine run_block ?_
                refine run_seq ?_
                refine run_region (q_indexa [.int .i64 (at' ([(at' e.mine.Airways x2.2.2).From, (at' e.mine.Airways x2.2.2).To] : List Int) x3.2.2), .int .i64 (at' ([(at' e.mine.Airways x2.2.2).To, (at' e.mine.Airways x2.2.2).From] : List Int) x3.2.2)] .n (.t rfl) (.t rfl) ae_110 ag_109 rfl (fun _ => by omega) (fun _ => by have h : x3.2.2 = 0 ∨ x3.2.2 = 1 := (by first | omega | (simp only [List.length_append, List.length_cons, List.length_nil, List.length_replicate, put_len] at *; omega)); rcases h with h | h <;> (rw [h]; rfl)) rfl <| q_alloc (l := 205) .n rfl zv_109 rfl rfl <| q_st_boxm [.int .i64 (at' ([(at' e.mine.Airways x2.2.2).From, (at' e.mine.Airways x2.2.2).To] : List Int) x3.2.2), .int .i64 (at' ([(at' e.mine.Airways x2.2.2).To, (at' e.mine.Airways x2.2.2).From] : List Int) x3.2.2)] .n rfl (.t rfl) (.t rfl) rfl ts_109 rfl rfl <| Lex.nil) ?_
                refine run_seq ?_
                refine run_draw fmo (q_move .n (.t rfl) rfl <| q_idxa_ow .n (.t rfl) (.c rfl) ae_109 (by decide) 0 rfl rfl <| q_ld1_ow .n (.t rfl) rfl (.inr rfl) (fun _ => rfl) rfl ic_2 rfl <| q_idx_ow .n (.t rfl) (.t rfl) sl_25 (fun _ => by ((have hS : SmI e.mine.Junctions x1.1 x3.1 x3.2.1 := (by assumption); have hl := hS.1.1; have hw0 := hp1.at (i := x2.2.2) (by omega); unfold AirIn at hw0; have hw1 := at2 hw0 (q := x3.2.2) (by omega); omega))) rfl <| q_ld1_row .n (.t rfl) rfl (fun _ => by ((have hS : SmI e.mine.Junctions x1.1 x3.1 x3.2.1 := (by assumption); have hl := hS.1.1; have hw0 := hp1.at (i := x2.2.2) (by omega); unfold AirIn at hw0; have hw1 := at2 hw0 (q := x3.2.2) (by omega); omega))) rfl rfl rfl ic_2 rfl <| q_ldN_ow .n (.t rfl) rfl (.inr rfl) ag_99 (fun _ => rfl) rfl rfl <| q_fld_ow .n (.t rfl) fo_71_2 rfl <| q_ld1_ow .n (.t rfl) rfl (.inr rfl) (fun _ => rfl) rfl ic_2 rfl <| q_call0 (full := false) .n .f en_67 (.cons (.t rfl) (.cons (.t rfl) .nil)) (.cons (.sts rfl) (.cons (.b (.a (.same rfl))) .nil)) (fun hg => c_impl_Airway_walkTime (at' e.mine.Airways x2.2.2) c_.Speed (by omega)) rfl (fun h => Bool.noConfusion h) rfl <| q_int .n (.t rfl) (.t rfl) rfl rfl <| q_assign .n (.t rfl) rfl <| Lex.nil) (by kernel_rfl) ?_
                refine run_seq ?_
                refine run_region (q_move .n (.t rfl) rfl <| q_idxa_ow .n (.t rfl) (.c rfl) ae_109 (by decide) 1 rfl rfl <| q_ld1_ow .n (.t rfl) rfl (.inr rfl) (fun _ => rfl) rfl ic_2 rfl <| q_idx_ow .n (.t rfl) (.t rfl) sl_25 (fun _ => by ((have hS : SmI e.mine.Junctions x1.1 x3.1 x3.2.1 := (by assumption); have hl := hS.1.1; have hw0 := hp1.at (i := x2.2.2) (by omega); unfold AirIn at hw0; have hw1 := at2 hw0 (q := x3.2.2) (by omega); omega))) rfl <| q_ld1_row .n (.t rfl) rfl (fun _ => by ((have hS : SmI e.mine.Junctions x1.1 x3.1 x3.2.1 := (by assumption); have hl := hS.1.1; have hw0 := hp1.at (i := x2.2.2) (by omega); unfold AirIn at hw0; have hw1 := at2 hw0 (q := x3.2.2) (by omega); omega))) rfl rfl rfl ic_2 rfl <| q_int .n (.t rfl) (.c rfl) rfl rfl <| q_move .n (.t rfl) rfl <| q_move (.f rfl rfl) (.t rfl) rfl <| q_move (.f rfl rfl) (.t rfl) rfl <| q_idxa_ow (.f rfl rfl) (.t rfl) (.c rfl) ae_109 (by decide) 1 rfl rfl <| q_ld1_ow (.f rfl rfl) (.u rfl id) rfl (.inr rfl) (fun _ => rfl) rfl ic_2 rfl <| q_idx_ow (.f rfl rfl) (.u rfl id) (.u rfl id) sl_25 (fun hg => by simp only [Bool.and_eq_true, Bool.or_eq_true, Bool.not_eq_true', Bool.and_eq_false_iff, Bool.or_eq_false_iff, Bool.not_eq_false', decide_eq_true_eq, decide_eq_false_iff_not, beq_iff_eq, bne_iff_ne, beq_eq_false_iff_ne, bne_eq_false_iff_eq, Bool.true_and, ne_eq, Decidable.not_not, Int.not_lt, Int.not_le, Nat.not_lt, Nat.not_le, strB_nil, strB_nil', strB_nnil, strB_nnil'] at hg; ((have hS : SmI e.mine.Junctions x1.1 x3.1 x3.2.1 := (by assumption); have hl := hS.1.1; have hw0 := hp1.at (i := x2.2.2) (by omega); unfold AirIn at hw0; have hw1 := at2 hw0 (q := x3.2.2) (by omega); omega))) rfl <| q_ld1_row (.f rfl rfl) (.u rfl id) rfl (fun hg => by simp only [Bool.and_eq_true, Bool.or_eq_true, Bool.not_eq_true', Bool.and_eq_false_iff, Bool.or_eq_false_iff, Bool.not_eq_false', decide_eq_true_eq, decide_eq_false_iff_not, beq_iff_eq, bne_iff_ne, beq_eq_false_iff_ne, bne_eq_false_iff_eq, Bool.true_and, ne_eq, Decidable.not_not, Int.not_lt, Int.not_le, Nat.not_lt, Nat.not_le, strB_nil, strB_nil', strB_nnil, strB_nnil'] at hg; ((have hS : SmI e.mine.Junctions x1.1 x3.1 x3.2.1 := (by assumption); have hl := hS.1.1; have hw0 := hp1.at (i := x2.2.2) (by omega); unfold AirIn at hw0; have hw1 := at2 hw0 (q := x3.2.2) (by omega); omega))) rfl rfl rfl ic_2 rfl <| q_int (.f rfl rfl) (.u rfl id) (.u rfl id) rfl rfl <| q_or .n (.t rfl) (.u rfl id) rfl <| q_assign .n (.t rfl) rfl <| Lex.nil) ?_
                refine run_seq ?_
                refine run_region (q_move .n (.t rfl) rfl <| q_fld_ow .n (.t rfl) fo_78_2 rfl <| q_ld1_ow .n (.t rfl) rfl (.inr rfl) (fun _ => rfl) rfl ic_2 rfl <| q_int .n (.t rfl) (.t rfl) rfl rfl <| q_move .n (.t rfl) rfl <| q_move (.t rfl rfl) (.t rfl) rfl <| q_idxa_ow (.t rfl rfl) (.t rfl) (.c rfl) ae_109 (by decide) 0 rfl rfl <| q_ld1_ow (.t rfl rfl) (.u rfl id) rfl (.inr rfl) (fun _ => rfl) rfl ic_2 rfl <| q_idx_ow (.t rfl rfl) (.u rfl id) (.u rfl id) sl_25 (fun hg => by simp only [Bool.and_eq_true, Bool.or_eq_true, Bool.not_eq_true', Bool.and_eq_false_iff, Bool.or_eq_false_iff, Bool.not_eq_false', decide_eq_true_eq, decide_eq_false_iff_not, beq_iff_eq, bne_iff_ne, beq_eq_false_iff_ne, bne_eq_false_iff_eq, Bool.true_and, ne_eq, Decidable.not_not, Int.not_lt, Int.not_le, Nat.not_lt, Nat.not_le, strB_nil, strB_nil', strB_nnil, strB_nnil'] at hg; ((have hS : SmI e.mine.Junctions x1.1 x3.1 x3.2.1 := (by assumption); have hl := hS.1.1; have hw0 := hp1.at (i := x2.2.2) (by omega); unfold AirIn at hw0; have hw1 := at2 hw0 (q := x3.2.2) (by omega); omega))) rfl <| q_ld1_row (.t rfl rfl) (.u rfl id) rfl (fun hg => by simp only [Bool.and_eq_true, Bool.or_eq_true, Bool.not_eq_true', Bool.and_eq_false_iff, Bool.or_eq_false_iff, Bool.not_eq_false', decide_eq_true_eq, decide_eq_false_iff_not, beq_iff_eq, bne_iff_ne, beq_eq_false_iff_ne, bne_eq_false_iff_eq, Bool.true_and, ne_eq, Decidable.not_not, Int.not_lt, Int.not_le, Nat.not_lt, Nat.not_le, strB_nil, strB_nil', strB_nnil, strB_nnil'] at hg; ((have hS : SmI e.mine.Junctions x1.1 x3.1 x3.2.1 := (by assumption); have hl := hS.1.1; have hw0 := hp1.at (i := x2.2.2) (by omega); unfold AirIn at hw0; have hw1 := at2 hw0 (q := x3.2.2) (by omega); omega))) rfl rfl rfl ic_2 rfl <| q_int (.t rfl rfl) (.u rfl id) (.c rfl) rfl rfl <| q_and .n (.t rfl) (.u rfl id) rfl <| q_move .n (.t rfl) rfl <| q_move (.t rfl rfl) (.t rfl) rfl <| q_and .n (.t rfl) (.u rfl id) rfl <| q_move .n (.t rfl) rfl <| q_ldN_ow (.t rfl rfl) (.t rfl) rfl (.inr rfl) ag_78 (fun _ => rfl) rfl rfl <| q_idxa_ow (.t rfl rfl) (.t rfl) (.c rfl) ae_109 (by decide) 1 rfl rfl <| q_ld1_ow (.t rfl rfl) (.u rfl id) rfl (.inr rfl) (fun _ => rfl) rfl ic_2 rfl <| q_move (.t rfl rfl) (.t rfl) rfl <| q_call0 (full := false) (.t rfl rfl) .f en_66 (.cons (.u rfl id) (.cons (.u rfl id) (.cons (.u rfl id) .nil))) (.cons (.sts rfl) (.cons (.b (.a (.same rfl))) (.cons (.b (.a (.same rfl))) .nil))) (fun hg => c_impl_escape_mayBe e (at' ([(at' e.mine.Airways x2.2.2).To, (at' e.mine.Airways x2.2.2).From] : List Int) x3.2.2) (IntKind.wrap .i64 ((at' x3.1 (at' ([(at' e.mine.Airways x2.2.2).From, (at' e.mine.Airways x2.2.2).To] : List Int) x3.2.2)) + (m_impl_Airway_walkTime (at' e.mine.Airways x2.2.2) c_.Speed))) (by simp only [Bool.and_eq_true, Bool.or_eq_true, Bool.not_eq_true', Bool.and_eq_false_iff, Bool.or_eq_false_iff, Bool.not_eq_false', decide_eq_true_eq, decide_eq_false_iff_not, beq_iff_eq, bne_iff_ne, beq_eq_false_iff_ne, bne_eq_false_iff_eq, Bool.true_and, ne_eq, Decidable.not_not, Int.not_lt, Int.not_le, Nat.not_lt, Nat.not_le, strB_nil, strB_nil', strB_nnil, strB_nnil'] at hg; ((have hS : SmI e.mine.Junctions x1.1 x3.1 x3.2.1 := (by assumption); have hl := hS.1.1; have hw0 := hp1.at (i := x2.2.2) (by omega); unfold AirIn at hw0; have hw1 := at2 hw0 (q := x3.2.2) (by omega); omega)))) rfl (fun h => Bool.noConfusion h) rfl <| q_and .n (.t rfl) (.u rfl id) rfl <| Lex.nil) ?_
                refine run_cond (.t rfl) rfl (fun h13 => ?_) (fun h13 => ?_)
                · try simp only [Bool.and_eq_true, Bool.or_eq_true, Bool.not_eq_true', Bool.and_eq_false_iff, Bool.or_eq_false_iff, Bool.not_eq_false', decide_eq_true_eq, decide_eq_false_iff_not, beq_iff_eq, bne_iff_ne, beq_eq_false_iff_ne, bne_eq_false_iff_eq, Bool.true_and, ne_eq, Decidable.not_not, Int.not_lt, Int.not_le, Nat.not_lt, Nat.not_le, strB_nil, strB_nil', strB_nnil, strB_nnil'] at h13
                  refine run_region (q_move .n (.t rfl) rfl <| q_idxa_ow .n (.t rfl) (.c rfl) ae_109 (by decide) 1 rfl rfl <| q_ld1_ow .n (.t rfl) rfl (.inr rfl) (fun _ => rfl) rfl ic_2 rfl <| q_move .n (.t rfl) rfl <| q_idx_ow .n (.t rfl) (.t rfl) sl_25 (fun _ => by ((have hS : SmI e.mine.Junctions x1.1 x3.1 x3.2.1 := (by assumption); have hl := hS.1.1; have hw0 := hp1.at (i := x2.2.2) (by omega); unfold AirIn at hw0; have hw1 := at2 hw0 (q := x3.2.2) (by omega); omega))) rfl <| q_st_rowm (IntKind.wrap .i64 ((at' x3.1 (at' ([(at' e.mine.Airways x2.2.2).From, (at' e.mine.Airways x2.2.2).To] : List Int) x3.2.2)) + (m_impl_Airway_walkTime (at' e.mine.Airways x2.2.2) c_.Speed))) .n rfl (.t rfl) (.t rfl) rfl ts_2 (by ((have hS : SmI e.mine.Junctions x1.1 x3.1 x3.2.1 := (by assumption); have hl := hS.1.1; have hw0 := hp1.at (i := x2.2.2) (by omega); unfold AirIn at hw0; have hw1 := at2 hw0 (q := x3.2.2) (by omega); omega))) rfl rfl <| q_assign .n (.c rfl) rfl <| Lex.nil) ?_
                  refine run_endB ?_
                  refine run_region (q_add .n (.t rfl) (.c rfl) (fun _ => by omega) rfl <| q_move .n (.t rfl) rfl <| Lex.nil) ?_
                  exact run_again (put' x3.1 (at' ([(at' e.mine.Airways x2.2.2).To, (at' e.mine.Airways x2.2.2).From] : List Int) x3.2.2) (IntKind.wrap .i64 ((at' x3.1 (at' ([(at' e.mine.Airways x2.2.2).From, (at' e.mine.Airways x2.2.2).To] : List Int) x3.2.2)) + (m_impl_Airway_walkTime (at' e.mine.Airways x2.2.2) c_.Speed))), true, x3.2.2 + 1) ⟨by (simp only [List.length_append, List.length_cons, List.length_nil, List.length_replicate, put_len] at * <;> omega), by assumption, by (simp only [List.length_append, List.length_cons, List.length_nil, List.length_replicate, put_len] at * <;> omega), by ((have hS : SmI e.mine.Junctions x1.1 x3.1 x3.2.1 := (by assumption); have hl := hS.1.1; exact times_put hp1 hp3.2 hS (by omega) (by omega) (by assumption)))⟩ (by (simp only [List.length_append, List.length_cons, List.length_nil, List.length_replicate, put_len] at * <;> omega)) (sub_of [] ⟨rfl, rfl, os_len rfl (by first | (simp only [put_len]; done) | (first | omega | assumption | (simp only [List.length_append, List.length_cons, List.length_nil, List.length_replicate, put_len] at * <;> omega) | ((exact cw_start hp1 hp3 hp4); done) | ((exact cw_pot hp1 hp3 hp4); done) | ((exact SmI.refl (by assumption)); done) | ((exact SmI.mu (by assumption) (by assumption)); done) | ((exact And.left (by assumption)); done) | (((have hS : SmI e.mine.Junctions x1.1 x3.1 x3.2.1 := (by assumption); have hl := hS.1.1; have hw0 := hp1.at (i := x2.2.2) (by omega); unfold AirIn at hw0; have hw1 := at2 hw0 (q := x3.2.2) (by omega); omega)); done) | (((have hS : SmI e.mine.Junctions x1.1 x3.1 x3.2.1 := (by assumption); have hl := hS.1.1; exact times_put hp1 hp3.2 hS (by omega) (by omega) (by assumption))); done))), rfl, rfl, rfl, rfl, rfl, rfl, rfl, rfl, trivial⟩ ⟨rfl, rfl, rfl, rfl, trivial⟩ rfl)
                · try simp only [Bool.and_eq_true, Bool.or_eq_true, Bool.not_eq_true', Bool.and_eq_false_iff, Bool.or_eq_false_iff, Bool.not_eq_false', decide_eq_true_eq, decide_eq_false_iff_not, beq_iff_eq, bne_iff_ne, beq_eq_false_iff_ne, bne_eq_false_iff_eq, Bool.true_and, ne_eq, Decidable.not_not, Int.not_lt, Int.not_le, Nat.not_lt, Nat.not_le, strB_nil, strB_nil', strB_nnil, strB_nnil'] at h13
                  refine run_skip ?_
                  refine run_endB ?_
                  refine run_region (q_add .n (.t rfl) (.c rfl) (fun _ => by omega) rfl <| q_move .n (.t rfl) rfl <| Lex.nil) ?_
                  exact run_again (x3.1, x3.2.1, x3.2.2 + 1) ⟨by (simp only [List.length_append, List.length_cons, List.length_nil, List.length_replicate, put_len] at * <;> omega), by assumption, by omega, by omega⟩ (by (simp only [List.length_append, List.length_cons, List.length_nil, List.length_replicate, put_len] at * <;> omega)) (sub_of [] ⟨rfl, rfl, rfl, rfl, rfl, rfl, rfl, rfl, rfl, rfl, rfl, trivial⟩ ⟨rfl, rfl, rfl, rfl, trivial⟩ rfl)
              · try simp only [Bool.and_eq_true, Bool.or_eq_true, Bool.not_eq_true', Bool.and_eq_false_iff, Bool.or_eq_false_iff, Bool.not_eq_false', decide_eq_true_eq, decide_eq_false_iff_not, beq_iff_eq, bne_iff_ne, beq_eq_false_iff_ne, bne_eq_false_iff_eq, Bool.true_and, ne_eq, Decidable.not_not, Int.not_lt, Int.not_le, Nat.not_lt, Nat.not_le, strB_nil, strB_nil', strB_nnil, strB_nnil'] at h12
                refine run_exit rfl ?_
                exact run_cont hk10 (x3.1, x3.2.1, x3.2.2) ⟨by omega, by omega, by omega, by omega, by omega⟩ (sub_of [] ⟨rfl, rfl, rfl, rfl, rfl, rfl, rfl, trivial⟩ ⟨rfl, rfl, rfl, trivial⟩ rfl)
          · try simp only [Bool.and_eq_true, Bool.or_eq_true, Bool.not_eq_true', Bool.and_eq_false_iff, Bool.or_eq_false_iff, Bool.not_eq_false', decide_eq_true_eq, decide_eq_false_iff_not, beq_iff_eq, bne_iff_ne, beq_eq_false_iff_ne, bne_eq_false_iff_eq, Bool.true_and, ne_eq, Decidable.not_not, Int.not_lt, Int.not_le, Nat.not_lt, Nat.not_le, strB_nil, strB_nil', strB_nnil, strB_nnil'] at h9
            refine run_exit rfl ?_
            exact run_cont hk7 (x2.1, x2.2.1, x2.2.2) ⟨by omega, by omega, by omega, by omega⟩ (sub_of [] ⟨rfl, rfl, rfl, rfl, trivial⟩ ⟨rfl, rfl, rfl, trivial⟩ rfl)
      · try simp only [Bool.and_eq_true, Bool.or_eq_true, Bool.not_eq_true', Bool.and_eq_false_iff, Bool.or_eq_false_iff, Bool.not_eq_false', decide_eq_true_eq, decide_eq_false_iff_not, beq_iff_eq, bne_iff_ne, beq_eq_false_iff_ne, bne_eq_false_iff_eq, Bool.true_and, ne_eq, Decidable.not_not, Int.not_lt, Int.not_le, Nat.not_lt, Nat.not_le, strB_nil, strB_nil', strB_nnil, strB_nnil'] at h6
        refine run_exit rfl ?_
        exact run_cont hk4 (x1.1, x1.2) (by omega) (sub_of [] ⟨rfl, trivial⟩ ⟨rfl, trivial⟩ rfl)

/-! ### slices_Clone_int64 -/
theorem c_slices_Clone_int64 (s_ : List Int) (hp1 : s_.length ≤ 1048576) : Con Try.prog 68 [.sl 1 (s_.map (V.int .i64))] [] (.os 100 (m_slices_Clone_int64 s_).length) ([(100, some (.row 2 1 ((m_slices_Clone_int64 s_).map (V.int .i64))))]) := by
  refine con_intro (out := fun r : (List Int) => ((.os 100 r.length : V), ([(100, some (.row 2 1 (r.map (V.int .i64))))] : List (Nat × Option O)))) (r := (m_slices_Clone_int64 s_)) Try.func68 rfl Try.ntmps68 rfl ?_
  refine run_fact (t := 0) rfl fun hl => ?_
  have l1 := hl; clear hl; simp only [List.length_map] at l1
  refine run_seq ?_
  refine run_region (q_assign .n (.c rfl) rfl <| Lex.nil) ?_
  refine run_seq ?_
  refine run_seq ?_
  refine run_region (q_move .n (.t rfl) rfl <| q_eqnil .n (.t rfl) (.c rfl) us_25 rfl <| Lex.nil) ?_
  refine run_cond_ub (.t rfl) (fun h2 => ?_) ?_
  · have h2 := ub_nil h2
    refine run_r (r' := (([] : List Int))) (by show (([] : List Int) ++ s_) = (([] : List Int)); simp [h2]) ?_
    refine run_seq ?_
    refine run_region (q_assign .n (.c rfl) rfl <| Lex.nil) ?_
    refine run_sub (sub_adopt (t := 2) (l := 200) (el := 2) (sz := 1) rfl rfl) ?_
    exact run_ret [(100, 200)] (.cons (.t rfl rfl) .nil) (by first | rfl | (simp only [put_len]; rfl)) ⟨rfl, trivial⟩ rfl
  · skip
    refine run_skip ?_
    refine run_seq ?_
    refine run_region (q_bslicem ([] : List Int) (f := V.int .i64) (l := 201) .n rfl rfl .nil rfl si_25 zv_2 rfl rfl rfl <| q_move .n (.t rfl) rfl <| q_appm (xs := ([] : List Int)) (ys := s_) (f := V.int .i64) (l := 202) .n rfl (.ow (.t rfl) rfl (take_all (by simp only [len_map, put_len] <;> rfl)) (by simp only [len_map, put_len] <;> rfl)) (.ro (.t rfl)) si_25 zv_2 rfl (by (simp only [List.length_append, List.length_cons, List.length_nil, List.length_replicate, put_len] at * <;> omega)) rfl rfl <| q_assign .n (.t rfl) rfl <| Lex.nil) ?_
    exact run_ret [(100, 202)] (.cons (.t rfl rfl) .nil) (by first | rfl | (simp only [put_len]; rfl)) ⟨rfl, trivial⟩ rfl

/-! ### impl_sumOf -/
theorem c_impl_sumOf (list : List Int) : Con Try.prog 69 [.sl 1 (list.map (V.int .i64))] [] (.int .i64 (m_impl_sumOf list)) ([]) := by
  refine con_intro (out := fun r : Int => ((.int .i64 r : V), ([] : List (Nat × Option O)))) (r := (m_impl_sumOf list)) Try.func69 rfl Try.ntmps69 rfl ?_
  refine run_fact (t := 0) rfl fun hl => ?_
  have l1 := hl; clear hl; simp only [List.length_map] at l1
  refine run_seq ?_
  refine run_region (q_assign .n (.c rfl) rfl <| Lex.nil) ?_
  refine run_seq ?_
  refine run_region (q_assign .n (.c rfl) rfl <| Lex.nil) ?_
  refine run_seq ?_
  refine run_seq ?_
  refine run_region (q_move .n (.t rfl) rfl <| q_len .n (.t rfl) rfl len_map ss_25 rfl <| q_move .n (.c rfl) rfl <| Lex.nil) ?_
  refine run_block ?_
  refine run_LOOP (m_impl_sumOf_b1 list) _ _ _ rfl (fun (x1 : Int × Int) => 0 ≤ x1.2 ∧ x1.2 ≤ (list.length : Int)) (fun x1 => 0 ≤ x1.2 ∧ x1.2 ≤ (list.length : Int) ∧ (list.length : Int) ≤ x1.2) (fun x1 => ((list.length : Int) - x1.2 : Int).toNat) (fun x1 => ⟨[(3, some (true, .int .i64 x1.1)), (6, some (true, .sl 1 (list.map (V.int .i64)))), (7, some (true, .int .i64 (list.length : Int))), (8, some (true, .int .i64 x1.2))], []⟩) (fun x1 => ⟨[(3, some (true, .int .i64 x1.1))], []⟩) ⟨by omega, by omega⟩ (by omega) (sub_of [] ⟨rfl, rfl, rfl, rfl, trivial⟩ trivial rfl) ?_ ?_
  · intro x1 i5
    obtain ⟨e6, e7, e8⟩ := i5
    try dsimp only at *
    refine run_seq ?_
    refine run_region (q_move .n (.t rfl) rfl <| q_assign .n (.t rfl) rfl <| Lex.nil) ?_
    exact run_ret [] (.cons (.t rfl rfl) .nil) rfl trivial rfl
  · intro rec1 k1 hk2 x1 i3
    obtain ⟨e9, e10⟩ := i3
    try dsimp only at *
    refine run_seq ?_
    refine run_region (q_int .n (.t rfl) (.t rfl) rfl rfl <| Lex.nil) ?_
    refine run_seq ?_
    refine run_cond (.t rfl) rfl (fun h4 => ?_) (fun h4 => ?_)
    · try simp only [Bool.and_eq_true, Bool.or_eq_true, Bool.not_eq_true', Bool.and_eq_false_iff, Bool.or_eq_false_iff, Bool.not_eq_false', decide_eq_true_eq, decide_eq_false_iff_not, beq_iff_eq, bne_iff_ne, beq_eq_false_iff_ne, bne_eq_false_iff_eq, Bool.true_and, ne_eq, Decidable.not_not, Int.not_lt, Int.not_le, Nat.not_lt, Nat.not_le, strB_nil, strB_nil', strB_nnil, strB_nnil'] at h4
      refine run_skip ?_
      refine run_seq ?_
      refine run_block ?_
      refine run_seq ?_
      refine run_region (q_idx_rm .n (.t rfl) (.t rfl) sl_25 (fun _ => by omega) rfl <| q_ld1_ro .n (.t rfl) rfl ic_2 rfl <| q_assign .n (.t rfl) rfl <| Lex.nil) ?_
      refine run_region (q_move .n (.t rfl) rfl <| q_move .n (.t rfl) rfl <| q_int .n (.t rfl) (.t rfl) rfl rfl <| q_assign .n (.t rfl) rfl <| Lex.nil) ?_
      refine run_endB ?_
      refine run_region (q_add .n (.t rfl) (.c rfl) (fun _ => by omega) rfl <| q_move .n (.t rfl) rfl <| Lex.nil) ?_
      exact run_again (IntKind.wrap .i64 (x1.1 + (at' list x1.2)), x1.2 + 1) ⟨by omega, by omega⟩ (by omega) (sub_of [] ⟨rfl, rfl, rfl, rfl, trivial⟩ trivial rfl)
    · try simp only [Bool.and_eq_true, Bool.or_eq_true, Bool.not_eq_true', Bool.and_eq_false_iff, Bool.or_eq_false_iff, Bool.not_eq_false', decide_eq_true_eq, decide_eq_false_iff_not, beq_iff_eq, bne_iff_ne, beq_eq_false_iff_ne, bne_eq_false_iff_eq, Bool.true_and, ne_eq, Decidable.not_not, Int.not_lt, Int.not_le, Nat.not_lt, Nat.not_le, strB_nil, strB_nil', strB_nnil, strB_nnil'] at h4
      refine run_exit rfl ?_
      exact run_cont hk2 (x1.1, x1.2) ⟨by omega, by omega, by omega⟩ (sub_of [] ⟨rfl, trivial⟩ trivial rfl)

/-! ### impl_placeSearch_node -/
set_option maxRecDepth 100000 in
set_option maxHeartbeats 4000000 in
theorem c_impl_placeSearch_node (fuel : Nat) (self_ : gplaceSearch → Int → gplaceSearch) (ih : ∀ (s_ : gplaceSearch) (persons : Int) (hp1 : PI s_.sizes s_.reached s_.free s_.places persons) (hp2 : -1 ≤ s_.budget ∧ s_.budget ≤ 20000) (hp3 : s_.most < persons + rstf s_.sizes s_.places.length) (hmu : ((s_.sizes.length : Int) - s_.places.length).toNat < fuel), Con Try.prog 41 [.op 0 0 0 0, .int .i64 persons] [(0, some (.box 84 [.sl 1 (s_.sizes.map (V.int .i64)), .os 11 s_.reached.length, .os 12 s_.free.length, .int .i64 s_.budget, .os 14 s_.places.length, .os 15 s_.best.length, .int .i64 s_.most])), (11, some (.row 25 1 (s_.reached.map (slv 1 (V.int .i64))))), (12, some (.row 2 1 (s_.free.map (V.int .i64)))), (14, some (.row 2 1 (s_.places.map (V.int .i64)))), (15, some (.row 2 1 (s_.best.map (V.int .i64))))] (.tup []) ([(100, some (.row 25 1 ((self_ s_ persons).reached.map (slv 1 (V.int .i64))))), (101, some (.row 2 1 ((self_ s_ persons).free.map (V.int .i64)))), (102, some (.row 2 1 ((self_ s_ persons).places.map (V.int .i64)))), (103, some (.row 2 1 ((self_ s_ persons).best.map (V.int .i64)))), (0, some (.box 84 [.sl 1 (s_.sizes.map (V.int .i64)), .os 100 (self_ s_ persons).reached.length, .os 101 (self_ s_ persons).free.length, .int .i64 (self_ s_ persons).budget, .os 102 (self_ s_ persons).places.length, .os 103 (self_ s_ persons).best.length, .int .i64 (self_ s_ persons).most]))])) (hself : HS self_ fuel) (s_ : gplaceSearch) (place : Int) (persons : Int) (hp1 : PI s_.sizes s_.reached s_.free (s_.places ++ ([place] : List Int)) persons) (hp2 : -1 ≤ s_.budget ∧ s_.budget ≤ 20000) (hp3 : s_.most < persons + rstf s_.sizes (s_.places.length + 1)) (hp4 : s_.sizes.length - (s_.places.length + 1) < fuel) : Con Try.prog 70 [.op 0 0 0 0, .int .i64 place, .int .i64 persons] [(0, some (.box 84 [.sl 1 (s_.sizes.map (V.int .i64)), .os 11 s_.reached.length, .os 12 s_.free.length, .int .i64 s_.budget, .os 14 s_.places.length, .os 15 s_.best.length, .int .i64 s_.most])), (11, some (.row 25 1 (s_.reached.map (slv 1 (V.int .i64))))), (12, some (.row 2 1 (s_.free.map (V.int .i64)))), (14, some (.row 2 1 (s_.places.map (V.int .i64)))), (15, some (.row 2 1 (s_.best.map (V.int .i64))))] (.tup []) ([(100, some (.row 25 1 ((m_impl_placeSearch_node self_ s_ place persons).reached.map (slv 1 (V.int .i64))))), (101, some (.row 2 1 ((m_impl_placeSearch_node self_ s_ place persons).free.map (V.int .i64)))), (102, some (.row 2 1 ((m_impl_placeSearch_node self_ s_ place persons).places.map (V.int .i64)))), (103, some (.row 2 1 ((m_impl_placeSearch_node self_ s_ place persons).best.map (V.int .i64)))), (0, some (.box 84 [.sl 1 (s_.sizes.map (V.int .i64)), .os 100 (m_impl_placeSearch_node self_ s_ place persons).reached.length, .os 101 (m_impl_placeSearch_node self_ s_ place persons).free.length, .int .i64 (m_impl_placeSearch_node self_ s_ place persons).budget, .os 102 (m_impl_placeSearch_node self_ s_ place persons).places.length, .os 103 (m_impl_placeSearch_node self_ s_ place persons).best.length, .int .i64 (m_impl_placeSearch_node self_ s_ place persons).most]))]) := by
  refine con_intro (out := fun r : gplaceSearch => ((.tup [] : V), ([(100, some (.row 25 1 (r.reached.map (slv 1 (V.int .i64))))), (101, some (.row 2 1 (r.free.map (V.int .i64)))), (102, some (.row 2 1 (r.places.map (V.int .i64)))), (103, some (.row 2 1 (r.best.map (V.int .i64)))), (0, some (.box 84 [.sl 1 (s_.sizes.map (V.int .i64)), .os 100 r.reached.length, .os 101 r.free.length, .int .i64 r.budget, .os 102 r.places.length, .os 103 r.best.length, .int .i64 r.most]))] : List (Nat × Option O)))) (r := (m_impl_placeSearch_node self_ s_ place persons)) Try.func70 rfl Try.ntmps70 rfl ?_
  have hpl := hp1.pl
  have hsl := hp1.sl
  have hw : IntKind.wrap .i64 (s_.budget - 1) = s_.budget - 1 := wr64 (by omega)
  have hla : (s_.places ++ ([place] : List Int)).length = s_.places.length + 1 := by simp
  have hsf : 0 ≤ IntKind.wrap .i64 (s_.budget - 1) → (self_ (gplaceSearch.mk s_.sizes s_.reached s_.free (IntKind.wrap .i64 (s_.budget - 1)) (s_.places ++ ([place] : List Int)) s_.best s_.most) persons).places = s_.places ++ ([place] : List Int) := fun hb => (hself _ _ hp1 ⟨by dsimp only; omega, by dsimp only; omega⟩ (by dsimp only; rw [hla]; exact hp3) (by dsimp only; rw [hla]; exact hp4)).2.2.1
  refine run_factH (l := 11) rfl fun hl => ?_
  have l1 := hl; clear hl; simp only [List.length_map] at l1
  refine run_factH (l := 12) rfl fun hl => ?_
  have l2 := hl; clear hl; simp only [List.length_map] at l2
  refine run_factH (l := 14) rfl fun hl => ?_
  have l3 := hl; clear hl; simp only [List.length_map] at l3
  refine run_factH (l := 15) rfl fun hl => ?_
  have l4 := hl; clear hl; simp only [List.length_map] at l4
  refine run_seq ?_
  refine run_seq ?_
  refine run_region (q_move .n (.t rfl) rfl <| q_nilc_ow .n (.t rfl) rfl <| q_fld_ow .n (.t rfl) fo_84_3 rfl <| q_ld1_ow .n (.t rfl) rfl (.inr rfl) (fun _ => rfl) rfl ic_2 rfl <| q_int .n (.t rfl) (.c rfl) rfl rfl <| Lex.nil) ?_
  refine run_cond (.t rfl) rfl (fun h5 => ?_) (fun h5 => ?_)
  · try simp only [Bool.and_eq_true, Bool.or_eq_true, Bool.not_eq_true', Bool.and_eq_false_iff, Bool.or_eq_false_iff, Bool.not_eq_false', decide_eq_true_eq, decide_eq_false_iff_not, beq_iff_eq, bne_iff_ne, beq_eq_false_iff_ne, bne_eq_false_iff_eq, Bool.true_and, ne_eq, Decidable.not_not, Int.not_lt, Int.not_le, Nat.not_lt, Nat.not_le, strB_nil, strB_nil', strB_nnil, strB_nnil'] at h5
    exact run_ret [(100, 11), (101, 12), (102, 14), (103, 15)] .nil rfl ⟨rfl, rfl, rfl, rfl, rfl, trivial⟩ rfl
  · try simp only [Bool.and_eq_true, Bool.or_eq_true, Bool.not_eq_true', Bool.and_eq_false_iff, Bool.or_eq_false_iff, Bool.not_eq_false', decide_eq_true_eq, decide_eq_false_iff_not, beq_iff_eq, bne_iff_ne, beq_eq_false_iff_ne, bne_eq_false_iff_eq, Bool.true_and, ne_eq, Decidable.not_not, Int.not_lt, Int.not_le, Nat.not_lt, Nat.not_le, strB_nil, strB_nil', strB_nnil, strB_nnil'] at h5
    refine run_skip ?_
    refine run_seq ?_
    refine run_seq ?_
    refine run_region (q_move .n (.t rfl) rfl <| q_nilc_ow .n (.t rfl) rfl <| q_fld_ow .n (.t rfl) fo_84_3 rfl <| q_ld1_ow .n (.t rfl) rfl (.inr rfl) (fun _ => rfl) rfl ic_2 rfl <| q_int .n (.t rfl) (.c rfl) rfl rfl <| q_nilc_ow .n (.t rfl) rfl <| q_fld_ow .n (.t rfl) fo_84_3 rfl <| q_st_boxm [.sl 1 (s_.sizes.map (V.int .i64)), .os 11 s_.reached.length, .os 12 s_.free.length, .int .i64 (IntKind.wrap .i64 (s_.budget - 1)), .os 14 s_.places.length, .os 15 s_.best.length, .int .i64 s_.most] .n rfl (.t rfl) (.t rfl) rfl ts_2 rfl rfl <| Lex.nil) ?_
    refine run_seq ?_
    refine run_region (q_move .n (.t rfl) rfl <| q_nilc_ow .n (.t rfl) rfl <| q_fld_ow .n (.t rfl) fo_84_3 rfl <| q_ld1_ow .n (.t rfl) rfl (.inr rfl) (fun _ => rfl) rfl ic_2 rfl <| q_int .n (.t rfl) (.c rfl) rfl rfl <| Lex.nil) ?_
    refine run_cond (.t rfl) rfl (fun h6 => ?_) (fun h6 => ?_)
    · try simp only [Bool.and_eq_true, Bool.or_eq_true, Bool.not_eq_true', Bool.and_eq_false_iff, Bool.or_eq_false_iff, Bool.not_eq_false', decide_eq_true_eq, decide_eq_false_iff_not, beq_iff_eq, bne_iff_ne, beq_eq_false_iff_ne, bne_eq_false_iff_eq, Bool.true_and, ne_eq, Decidable.not_not, Int.not_lt, Int.not_le, Nat.not_lt, Nat.not_le, strB_nil, strB_nil', strB_nnil, strB_nnil'] at h6
      exact run_ret [(100, 11), (101, 12), (102, 14), (103, 15)] .nil rfl ⟨rfl, rfl, rfl, rfl, rfl, trivial⟩ rfl
    · try simp only [Bool.and_eq_true, Bool.or_eq_true, Bool.not_eq_true', Bool.and_eq_false_iff, Bool.or_eq_false_iff, Bool.not_eq_false', decide_eq_true_eq, decide_eq_false_iff_not, beq_iff_eq, bne_iff_ne, beq_eq_false_iff_ne, bne_eq_false_iff_eq, Bool.true_and, ne_eq, Decidable.not_not, Int.not_lt, Int.not_le, Nat.not_lt, Nat.not_le, strB_nil, strB_nil', strB_nnil, strB_nnil'] at h6
      refine run_skip ?_
      refine run_seq ?_
      refine run_region (q_move .n (.t rfl) rfl <| q_move .n (.t rfl) rfl <| q_nilc_ow .n (.t rfl) rfl <| q_fld_ow .n (.t rfl) fo_84_4 rfl <| q_ld1_ow .n (.t rfl) rfl (.inr rfl) (fun _ => rfl) rfl ic_25 rfl <| q_move .n (.t rfl) rfl <| q_bslicem ([place] : List Int) (f := V.int .i64) (l := 200) .n rfl rfl (.cons (.t rfl) .nil) rfl si_25 zv_2 rfl rfl rfl <| q_appm (xs := s_.places) (ys := ([place] : List Int)) (f := V.int .i64) (l := 201) .n rfl (.ow (.t rfl) rfl (take_all (by simp only [len_map, put_len] <;> rfl)) (by simp only [len_map, put_len] <;> rfl)) (.ow (.t rfl) rfl (take_all (by simp only [len_map, put_len] <;> rfl)) (by simp only [len_map, put_len] <;> rfl)) si_25 zv_2 rfl (by omega) rfl rfl <| q_nilc_ow .n (.t rfl) rfl <| q_fld_ow .n (.t rfl) fo_84_4 rfl <| q_st_boxm [.sl 1 (s_.sizes.map (V.int .i64)), .os 11 s_.reached.length, .os 12 s_.free.length, .int .i64 (IntKind.wrap .i64 (s_.budget - 1)), .os 201 (s_.places ++ ([place] : List Int)).length, .os 15 s_.best.length, .int .i64 s_.most] .n rfl (.t rfl) (.t rfl) rfl ts_25 rfl rfl <| Lex.nil) ?_
      refine run_seq ?_
      refine run_region (q_move .n (.t rfl) rfl <| q_move .n (.t rfl) rfl <| q_callM (full := false) [(0, 0), (11, 11), (12, 12), (14, 201), (15, 15)] [(100, 202), (101, 203), (102, 204), (103, 205)] .n rfl .f en_41 (.cons (.t rfl) (.cons (.t rfl) .nil)) (.cons (.b (.mutp rfl)) (.cons (.b (.a (.same rfl))) .nil)) (ih (gplaceSearch.mk s_.sizes s_.reached s_.free (IntKind.wrap .i64 (s_.budget - 1)) (s_.places ++ ([place] : List Int)) s_.best s_.most) persons (by omega) (by (simp only [List.length_append, List.length_cons, List.length_nil, List.length_replicate, put_len] at * <;> omega)) (by (simp only [List.length_append, List.length_cons, List.length_nil, List.length_replicate, put_len] at * <;> omega)) (by (simp only [List.length_append, List.length_cons, List.length_nil, List.length_replicate, put_len] at * <;> omega))) ⟨rfl, rfl, rfl, rfl, rfl, trivial⟩ rfl rfl (fun h => Bool.noConfusion h) (fun h => Bool.noConfusion h) rfl <| Lex.nil) ?_
      refine run_draw fmo (q_move .n (.t rfl) rfl <| q_move .n (.t rfl) rfl <| q_nilc_ow .n (.t rfl) rfl <| q_fld_ow .n (.t rfl) fo_84_4 rfl <| q_ld1_ow .n (.t rfl) rfl (.inr rfl) (fun _ => rfl) rfl ic_25 rfl <| q_move .n (.t rfl) rfl <| q_nilc_ow .n (.t rfl) rfl <| q_fld_ow .n (.t rfl) fo_84_4 rfl <| q_ld1_ow .n (.t rfl) rfl (.inr rfl) (fun _ => rfl) rfl ic_25 rfl <| q_len .n (.t rfl) rfl rfl ss_25 rfl <| q_int .n (.t rfl) (.c rfl) rfl rfl <| q_cut_owm (xs := (self_ (gplaceSearch.mk s_.sizes s_.reached s_.free (IntKind.wrap .i64 (s_.budget - 1)) (s_.places ++ ([place] : List Int)) s_.best s_.most) persons).places) (b := (IntKind.wrap .i64 (((self_ (gplaceSearch.mk s_.sizes s_.reached s_.free (IntKind.wrap .i64 (s_.budget - 1)) (s_.places ++ ([place] : List Int)) s_.best s_.most) persons).places.length : Int) - 1))) .n (.t rfl) (.s (.t rfl)) sl_25 (fun _ => by ((have hq := hsf (by omega); rw [hq, hla, wr64 (by omega)]; omega))) rfl <| q_nilc_ow .n (.t rfl) rfl <| q_fld_ow .n (.t rfl) fo_84_4 rfl <| q_st_boxm [.sl 1 (s_.sizes.map (V.int .i64)), .os 202 (self_ (gplaceSearch.mk s_.sizes s_.reached s_.free (IntKind.wrap .i64 (s_.budget - 1)) (s_.places ++ ([place] : List Int)) s_.best s_.most) persons).reached.length, .os 203 (self_ (gplaceSearch.mk s_.sizes s_.reached s_.free (IntKind.wrap .i64 (s_.budget - 1)) (s_.places ++ ([place] : List Int)) s_.best s_.most) persons).free.length, .int .i64 (self_ (gplaceSearch.mk s_.sizes s_.reached s_.free (IntKind.wrap .i64 (s_.budget - 1)) (s_.places ++ ([place] : List Int)) s_.best s_.most) persons).budget, .os 204 (pre' (self_ (gplaceSearch.mk s_.sizes s_.reached s_.free (IntKind.wrap .i64 (s_.budget - 1)) (s_.places ++ ([place] : List Int)) s_.best s_.most) persons).places (IntKind.wrap .i64 (((self_ (gplaceSearch.mk s_.sizes s_.reached s_.free (IntKind.wrap .i64 (s_.budget - 1)) (s_.places ++ ([place] : List Int)) s_.best s_.most) persons).places.length : Int) - 1))).length, .os 205 (self_ (gplaceSearch.mk s_.sizes s_.reached s_.free (IntKind.wrap .i64 (s_.budget - 1)) (s_.places ++ ([place] : List Int)) s_.best s_.most) persons).best.length, .int .i64 (self_ (gplaceSearch.mk s_.sizes s_.reached s_.free (IntKind.wrap .i64 (s_.budget - 1)) (s_.places ++ ([place] : List Int)) s_.best s_.most) persons).most] .n rfl (.t rfl) (.t rfl) rfl ts_25 rfl rfl <| Lex.nil) (by kernel_rfl) ?_
      refine run_shrink (f := V.int .i64) (xs := (self_ (gplaceSearch.mk s_.sizes s_.reached s_.free (IntKind.wrap .i64 (s_.budget - 1)) (s_.places ++ ([place] : List Int)) s_.best s_.most) persons).places) (l := 204) (IntKind.wrap .i64 (((self_ (gplaceSearch.mk s_.sizes s_.reached s_.free (IntKind.wrap .i64 (s_.budget - 1)) (s_.places ++ ([place] : List Int)) s_.best s_.most) persons).places.length : Int) - 1)) rfl ?_
      exact run_end [(100, 202), (101, 203), (102, 204), (103, 205)] .nil rfl ⟨rfl, rfl, rfl, rfl, rfl, trivial⟩ rfl

/-! ### impl_placeSearch_visit -/
set_option maxRecDepth 100000 in
set_option maxHeartbeats 4000000 in
theorem c_impl_placeSearch_visit_n : ∀ (fuel : Nat) (s_ : gplaceSearch) (persons : Int) (hp1 : PI s_.sizes s_.reached s_.free s_.places persons) (hp2 : -1 ≤ s_.budget ∧ s_.budget ≤ 20000) (hp3 : s_.most < persons + rstf s_.sizes s_.places.length) (hmu : ((s_.sizes.length : Int) - s_.places.length).toNat < fuel), Con Try.prog 41 [.op 0 0 0 0, .int .i64 persons] [(0, some (.box 84 [.sl 1 (s_.sizes.map (V.int .i64)), .os 11 s_.reached.length, .os 12 s_.free.length, .int .i64 s_.budget, .os 14 s_.places.length, .os 15 s_.best.length, .int .i64 s_.most])), (11, some (.row 25 1 (s_.reached.map (slv 1 (V.int .i64))))), (12, some (.row 2 1 (s_.free.map (V.int .i64)))), (14, some (.row 2 1 (s_.places.map (V.int .i64)))), (15, some (.row 2 1 (s_.best.map (V.int .i64))))] (.tup []) ([(100, some (.row 25 1 ((m_impl_placeSearch_visit_n fuel s_ persons).reached.map (slv 1 (V.int .i64))))), (101, some (.row 2 1 ((m_impl_placeSearch_visit_n fuel s_ persons).free.map (V.int .i64)))), (102, some (.row 2 1 ((m_impl_placeSearch_visit_n fuel s_ persons).places.map (V.int .i64)))), (103, some (.row 2 1 ((m_impl_placeSearch_visit_n fuel s_ persons).best.map (V.int .i64)))), (0, some (.box 84 [.sl 1 (s_.sizes.map (V.int .i64)), .os 100 (m_impl_placeSearch_visit_n fuel s_ persons).reached.length, .os 101 (m_impl_placeSearch_visit_n fuel s_ persons).free.length, .int .i64 (m_impl_placeSearch_visit_n fuel s_ persons).budget, .os 102 (m_impl_placeSearch_visit_n fuel s_ persons).places.length, .os 103 (m_impl_placeSearch_visit_n fuel s_ persons).best.length, .int .i64 (m_impl_placeSearch_visit_n fuel s_ persons).most]))]) := by
  intro fuel
  induction fuel with
  | zero => intro s_ persons hp1 hp2 hp3 hmu; exact absurd hmu (Nat.not_lt_zero _)
  | succ fuel ih =>
  intro s_ persons hp1 hp2 hp3 hmu
  simp only [m_impl_placeSearch_visit_n]
  have hself := post_impl_placeSearch_visit fuel
  generalize m_impl_placeSearch_visit_n fuel = self_ at ih hself ⊢
  refine con_intro (out := fun r : gplaceSearch => ((.tup [] : V), ([(100, some (.row 25 1 (r.reached.map (slv 1 (V.int .i64))))), (101, some (.row 2 1 (r.free.map (V.int .i64)))), (102, some (.row 2 1 (r.places.map (V.int .i64)))), (103, some (.row 2 1 (r.best.map (V.int .i64)))), (0, some (.box 84 [.sl 1 (s_.sizes.map (V.int .i64)), .os 100 r.reached.length, .os 101 r.free.length, .int .i64 r.budget, .os 102 r.places.length, .os 103 r.best.length, .int .i64 r.most]))] : List (Nat × Option O)))) (r := (m_impl_placeSearch_visit_body self_ s_ persons)) Try.func41 rfl Try.ntmps41 rfl ?_
  have hpl := hp1.pl
  have hsl := hp1.sl
  have hrl := hp1.rl
  have hsm := hp1.sm
  have hat : ∀ i : Int, 0 ≤ i → i < ((at' s_.reached (s_.places.length : Int)).length : Int) → s_.places.length < s_.sizes.length → (0 ≤ at' (at' s_.reached (s_.places.length : Int)) i ∧ at' (at' s_.reached (s_.places.length : Int)) i < s_.free.length) ∧ (1 ≤ at' s_.sizes (s_.places.length : Int) ∧ at' s_.sizes (s_.places.length : Int) ≤ 200) ∧ 0 ≤ at' s_.free (at' (at' s_.reached (s_.places.length : Int)) i) ∧ at' s_.free (at' (at' s_.reached (s_.places.length : Int)) i) ≤ 200 := fun i h1 h2 h3 => hp1.at_ h3 (at_mem ⟨h1, h2⟩)
  refine run_sub (s' := ⟨[(0, some (true, .op 0 0 0 0)), (1, some (true, .int .i64 persons))], [(0, some (.box 84 [.sl 1 (s_.sizes.map (V.int .i64)), .os 200 s_.reached.length, .os 201 s_.free.length, .int .i64 s_.budget, .os 202 s_.places.length, .os 203 s_.best.length, .int .i64 s_.most])), (200, some (.row 25 1 (s_.reached.map (slv 1 (V.int .i64))))), (201, some (.row 2 1 (s_.free.map (V.int .i64)))), (202, some (.row 2 1 (s_.places.map (V.int .i64)))), (203, some (.row 2 1 (s_.best.map (V.int .i64))))]⟩) (sub_of [(200, 11), (201, 12), (202, 14), (203, 15)] ⟨rfl, rfl, trivial⟩ ⟨rfl, rfl, rfl, rfl, rfl, trivial⟩ rfl) ?_
  refine run_factH (l := 200) rfl fun hl => ?_
  have l1 := hl; clear hl; simp only [List.length_map] at l1
  refine run_factH (l := 201) rfl fun hl => ?_
  have l2 := hl; clear hl; simp only [List.length_map] at l2
  refine run_factH (l := 202) rfl fun hl => ?_
  have l3 := hl; clear hl; simp only [List.length_map] at l3
  refine run_factH (l := 203) rfl fun hl => ?_
  have l4 := hl; clear hl; simp only [List.length_map] at l4
  refine run_seq ?_
  refine run_region (q_move .n (.t rfl) rfl <| q_nilc_ow .n (.t rfl) rfl <| q_fld_ow .n (.t rfl) fo_84_4 rfl <| q_ld1_ow .n (.t rfl) rfl (.inr rfl) (fun _ => rfl) rfl ic_25 rfl <| q_len .n (.t rfl) rfl rfl ss_25 rfl <| q_assign .n (.t rfl) rfl <| Lex.nil) ?_
  refine run_seq ?_
  refine run_seq ?_
  refine run_region (q_move .n (.t rfl) rfl <| q_move .n (.t rfl) rfl <| q_nilc_ow .n (.t rfl) rfl <| q_fld_ow .n (.t rfl) fo_84_0 rfl <| q_ld1_ow .n (.t rfl) rfl (.inr rfl) (fun _ => rfl) rfl ic_25 rfl <| q_len .n (.t rfl) rfl len_map ss_25 rfl <| q_int .n (.t rfl) (.t rfl) rfl rfl <| Lex.nil) ?_
  refine run_fact (t := 18) rfl fun hl => ?_
  have l5 := hl; clear hl; simp only [List.length_map] at l5
  refine run_cond (.t rfl) rfl (fun h6 => ?_) (fun h6 => ?_)
  · try simp only [Bool.and_eq_true, Bool.or_eq_true, Bool.not_eq_true', Bool.and_eq_false_iff, Bool.or_eq_false_iff, Bool.not_eq_false', decide_eq_true_eq, decide_eq_false_iff_not, beq_iff_eq, bne_iff_ne, beq_eq_false_iff_ne, bne_eq_false_iff_eq, Bool.true_and, ne_eq, Decidable.not_not, Int.not_lt, Int.not_le, Nat.not_lt, Nat.not_le, strB_nil, strB_nil', strB_nnil, strB_nnil'] at h6
    refine run_seq ?_
    refine run_region (q_move .n (.t rfl) rfl <| q_move .n (.t rfl) rfl <| q_move .n (.t rfl) rfl <| q_nilc_ow .n (.t rfl) rfl <| q_fld_ow .n (.t rfl) fo_84_4 rfl <| q_ld1_ow .n (.t rfl) rfl (.inr rfl) (fun _ => rfl) rfl ic_25 rfl <| q_callM (full := true) [] [(100, 204)] .n rfl .f en_68 (.cons (.t rfl) .nil) (.cons (.b (.a (.own rfl rfl rfl (take_all (by simp only [len_map, put_len] <;> rfl)) (by simp only [len_map, put_len] <;> rfl)))) .nil) (c_slices_Clone_int64 s_.places (by omega)) trivial rfl rfl (fun _ => rfl) (fun _ => (hr_row (fun _ => rfl) hr_nil)) rfl <| q_move .n (.t rfl) rfl <| q_nilc_ow .n (.t rfl) rfl <| q_fld_ow .n (.t rfl) fo_84_5 rfl <| q_st_boxm [.sl 1 (s_.sizes.map (V.int .i64)), .os 200 s_.reached.length, .os 201 s_.free.length, .int .i64 s_.budget, .os 202 s_.places.length, .os 204 (m_slices_Clone_int64 s_.places).length, .int .i64 s_.most] .n rfl (.t rfl) (.t rfl) rfl ts_25 rfl rfl <| q_nilc_ow .n (.t rfl) rfl <| q_fld_ow .n (.t rfl) fo_84_6 rfl <| q_st_boxm [.sl 1 (s_.sizes.map (V.int .i64)), .os 200 s_.reached.length, .os 201 s_.free.length, .int .i64 s_.budget, .os 202 s_.places.length, .os 204 (m_slices_Clone_int64 s_.places).length, .int .i64 persons] .n rfl (.t rfl) (.t rfl) rfl ts_2 rfl rfl <| Lex.nil) ?_
    exact run_ret [(100, 200), (101, 201), (102, 202), (103, 204)] .nil rfl ⟨rfl, rfl, rfl, rfl, rfl, trivial⟩ rfl
  · try simp only [Bool.and_eq_true, Bool.or_eq_true, Bool.not_eq_true', Bool.and_eq_false_iff, Bool.or_eq_false_iff, Bool.not_eq_false', decide_eq_true_eq, decide_eq_false_iff_not, beq_iff_eq, bne_iff_ne, beq_eq_false_iff_ne, bne_eq_false_iff_eq, Bool.true_and, ne_eq, Decidable.not_not, Int.not_lt, Int.not_le, Nat.not_lt, Nat.not_le, strB_nil, strB_nil', strB_nnil, strB_nnil'] at h6
    refine run_skip ?_
    refine run_seq ?_
    refine run_draw fmo (q_move .n (.t rfl) rfl <| q_nilc_ow .n (.t rfl) rfl <| q_fld_ow .n (.t rfl) fo_84_0 rfl <| q_ld1_ow .n (.t rfl) rfl (.inr rfl) (fun _ => rfl) rfl ic_25 rfl <| q_move .n (.t rfl) rfl <| q_idx_rm .n (.t rfl) (.t rfl) sl_25 (fun _ => by omega) rfl <| q_ld1_ro .n (.t rfl) rfl ic_2 rfl <| q_move .n (.t rfl) rfl <| q_nilc_ow .n (.t rfl) rfl <| q_fld_ow .n (.t rfl) fo_84_0 rfl <| q_ld1_ow .n (.t rfl) rfl (.inr rfl) (fun _ => rfl) rfl ic_25 rfl <| q_move .n (.t rfl) rfl <| q_add .n (.t rfl) (.c rfl) (fun _ => by omega) rfl <| q_cut_rm ((s_.places.length : Int) + 1) (s_.sizes.length : Int) .n (.t rfl) (.s (.t rfl)) .n sl_25 rfl rfl (fun _ => by omega) rfl <| q_call0 (full := false) .n .f en_69 (.cons (.t rfl) .nil) (.cons (.b (.a (.same rfl))) .nil) (fun hg => c_impl_sumOf (cut' s_.sizes ((s_.places.length : Int) + 1) (s_.sizes.length : Int))) rfl (fun h => Bool.noConfusion h) rfl <| q_assign .n (.t rfl) rfl <| q_assign .n (.t rfl) rfl <| Lex.nil) (by kernel_rfl) ?_
    refine run_seq ?_
    refine run_seq ?_
    refine run_region (q_move .n (.t rfl) rfl <| q_nilc_ow .n (.t rfl) rfl <| q_fld_ow .n (.t rfl) fo_84_1 rfl <| q_ld1_ow .n (.t rfl) rfl (.inr rfl) (fun _ => rfl) rfl ic_66 rfl <| q_move .n (.t rfl) rfl <| q_idx_ow .n (.t rfl) (.t rfl) sl_66 (fun _ => by omega) rfl <| q_ld1_row .n (.t rfl) rfl (fun _ => by omega) rfl rfl rfl ic_25 rfl <| q_len .n (.t rfl) rfl len_map ss_25 rfl <| q_move .n (.c rfl) rfl <| Lex.nil) ?_
    refine run_fact (t := 54) rfl fun hl => ?_
    have l7 := hl; clear hl; simp only [List.length_map] at l7
    refine run_block ?_
    refine run_LOOP (m_impl_placeSearch_visit_b1 self_ s_ persons) _ _ _ rfl (fun (x1 : (List (List Int)) × (List Int) × Int × (List Int) × (List Int) × Int × Int) => 0 ≤ x1.2.2.2.2.2.2 ∧ x1.2.2.2.2.2.2 ≤ ((at' s_.reached (s_.places.length : Int)).length : Int) ∧ x1.1 = s_.reached ∧ x1.2.1 = s_.free ∧ x1.2.2.2.1 = s_.places ∧ (-1 ≤ x1.2.2.1 ∧ x1.2.2.1 ≤ 20000)) (fun x1 => 0 ≤ x1.2.2.2.2.2.2 ∧ x1.2.2.2.2.2.2 ≤ ((at' s_.reached (s_.places.length : Int)).length : Int) ∧ x1.1 = s_.reached ∧ x1.2.1 = s_.free ∧ x1.2.2.2.1 = s_.places ∧ (-1 ≤ x1.2.2.1 ∧ x1.2.2.1 ≤ 20000) ∧ ((at' s_.reached (s_.places.length : Int)).length : Int) ≤ x1.2.2.2.2.2.2) (fun x1 => (((at' s_.reached (s_.places.length : Int)).length : Int) - x1.2.2.2.2.2.2 : Int).toNat) (fun x1 => ⟨[(0, some (true, .op 0 0 0 0)), (1, some (true, .int .i64 persons)), (5, some (true, .int .i64 (at' s_.sizes (s_.places.length : Int)))), (6, some (true, .int .i64 (m_impl_sumOf (cut' s_.sizes ((s_.places.length : Int) + 1) (s_.sizes.length : Int))))), (54, some (true, .sl 1 ((at' s_.reached (s_.places.length : Int)).map (V.int .i64)))), (55, some (true, .int .i64 ((at' s_.reached (s_.places.length : Int)).length : Int))), (56, some (true, .int .i64 x1.2.2.2.2.2.2))], [(0, some (.box 84 [.sl 1 (s_.sizes.map (V.int .i64)), .os 200 x1.1.length, .os 201 x1.2.1.length, .int .i64 x1.2.2.1, .os 202 x1.2.2.2.1.length, .os 203 x1.2.2.2.2.1.length, .int .i64 x1.2.2.2.2.2.1])), (200, some (.row 25 1 (x1.1.map (slv 1 (V.int .i64))))), (201, some (.row 2 1 (x1.2.1.map (V.int .i64)))), (202, some (.row 2 1 (x1.2.2.2.1.map (V.int .i64)))), (203, some (.row 2 1 (x1.2.2.2.2.1.map (V.int .i64))))]⟩) (fun x1 => ⟨[(0, some (true, .op 0 0 0 0)), (1, some (true, .int .i64 persons)), (6, some (true, .int .i64 (m_impl_sumOf (cut' s_.sizes ((s_.places.length : Int) + 1) (s_.sizes.length : Int)))))], [(0, some (.box 84 [.sl 1 (s_.sizes.map (V.int .i64)), .os 200 x1.1.length, .os 201 x1.2.1.length, .int .i64 x1.2.2.1, .os 202 x1.2.2.2.1.length, .os 203 x1.2.2.2.2.1.length, .int .i64 x1.2.2.2.2.2.1])), (200, some (.row 25 1 (x1.1.map (slv 1 (V.int .i64))))), (201, some (.row 2 1 (x1.2.1.map (V.int .i64)))), (202, some (.row 2 1 (x1.2.2.2.1.map (V.int .i64)))), (203, some (.row 2 1 (x1.2.2.2.2.1.map (V.int .i64))))]⟩) ⟨by (simp only [List.length_append, List.length_cons, List.length_nil, List.length_replicate, put_len] at * <;> omega), by (simp only [List.length_append, List.length_cons, List.length_nil, List.length_replicate, put_len] at * <;> omega), by (simp only [List.length_append, List.length_cons, List.length_nil, List.length_replicate, put_len] at * <;> omega), by (simp only [List.length_append, List.length_cons, List.length_nil, List.length_replicate, put_len] at * <;> omega), by (simp only [List.length_append, List.length_cons, List.length_nil, List.length_replicate, put_len] at * <;> omega), by omega⟩ (by (simp only [List.length_append, List.length_cons, List.length_nil, List.length_replicate, put_len] at * <;> omega)) (sub_of [] ⟨rfl, rfl, rfl, rfl, rfl, rfl, rfl, trivial⟩ ⟨rfl, rfl, rfl, rfl, rfl, trivial⟩ rfl) ?_ ?_
    · intro x1 i12
      obtain ⟨e14, e15, e16, e17, e18, e19, e20⟩ := i12
      try dsimp only at *
      refine run_seq ?_
      refine run_region (q_move .n (.t rfl) rfl <| q_move .n (.t rfl) rfl <| q_int .n (.t rfl) (.t rfl) rfl rfl <| q_move .n (.t rfl) rfl <| q_nilc_ow .n (.t rfl) rfl <| q_fld_ow .n (.t rfl) fo_84_6 rfl <| q_ld1_ow .n (.t rfl) rfl (.inr rfl) (fun _ => rfl) rfl ic_2 rfl <| q_int .n (.t rfl) (.t rfl) rfl rfl <| Lex.nil) ?_
      refine run_cond (.t rfl) rfl (fun h13 => ?_) (fun h13 => ?_)
      · try simp only [Bool.and_eq_true, Bool.or_eq_true, Bool.not_eq_true', Bool.and_eq_false_iff, Bool.or_eq_false_iff, Bool.not_eq_false', decide_eq_true_eq, decide_eq_false_iff_not, beq_iff_eq, bne_iff_ne, beq_eq_false_iff_ne, bne_eq_false_iff_eq, Bool.true_and, ne_eq, Decidable.not_not, Int.not_lt, Int.not_le, Nat.not_lt, Nat.not_le, strB_nil, strB_nil', strB_nnil, strB_nnil'] at h13
        refine run_region (q_move .n (.t rfl) rfl <| q_move .n (.t rfl) rfl <| q_callM (full := false) [(0, 0), (11, 200), (12, 201), (14, 202), (15, 203)] [(100, 209), (101, 210), (102, 211), (103, 212)] .n rfl .f en_70 (.cons (.t rfl) (.cons (.c rfl) (.cons (.t rfl) .nil))) (.cons (.b (.mutp rfl)) (.cons (.b (.a (.same rfl))) (.cons (.b (.a (.same rfl))) .nil))) (c_impl_placeSearch_node fuel self_ ih hself (gplaceSearch.mk s_.sizes x1.1 x1.2.1 x1.2.2.1 x1.2.2.2.1 x1.2.2.2.2.1 x1.2.2.2.2.2.1) (-1) persons (by (exact (visit_last (fuel := fuel) (re := x1.1) (fr := x1.2.1) (pl := x1.2.2.2.1) (mo := x1.2.2.2.2.2.1) hp1 (by omega) (by omega) (by assumption) (by assumption) (by assumption) (by first | assumption | omega)).1)) (by omega) (by (exact (visit_last (fuel := fuel) (re := x1.1) (fr := x1.2.1) (pl := x1.2.2.2.1) (mo := x1.2.2.2.2.2.1) hp1 (by omega) (by omega) (by assumption) (by assumption) (by assumption) (by first | assumption | omega)).2.1)) (by (exact (visit_last (fuel := fuel) (re := x1.1) (fr := x1.2.1) (pl := x1.2.2.2.1) (mo := x1.2.2.2.2.2.1) hp1 (by omega) (by omega) (by assumption) (by assumption) (by assumption) (by first | assumption | omega)).2.2))) ⟨rfl, rfl, rfl, rfl, rfl, trivial⟩ rfl rfl (fun h => Bool.noConfusion h) (fun h => Bool.noConfusion h) rfl <| Lex.nil) ?_
        exact run_end [(100, 209), (101, 210), (102, 211), (103, 212)] .nil rfl ⟨rfl, rfl, rfl, rfl, rfl, trivial⟩ rfl
      · try simp only [Bool.and_eq_true, Bool.or_eq_true, Bool.not_eq_true', Bool.and_eq_false_iff, Bool.or_eq_false_iff, Bool.not_eq_false', decide_eq_true_eq, decide_eq_false_iff_not, beq_iff_eq, bne_iff_ne, beq_eq_false_iff_ne, bne_eq_false_iff_eq, Bool.true_and, ne_eq, Decidable.not_not, Int.not_lt, Int.not_le, Nat.not_lt, Nat.not_le, strB_nil, strB_nil', strB_nnil, strB_nnil'] at h13
        refine run_skip ?_
        exact run_end [(100, 200), (101, 201), (102, 202), (103, 203)] .nil rfl ⟨rfl, rfl, rfl, rfl, rfl, trivial⟩ rfl
    · intro rec1 k1 hk8 x1 i9
      obtain ⟨e21, e22, e23, e24, e25, e26⟩ := i9
      try dsimp only at *
      refine run_seq ?_
      refine run_region (q_int .n (.t rfl) (.t rfl) rfl rfl <| Lex.nil) ?_
      refine run_seq ?_
      refine run_cond (.t rfl) rfl (fun h10 => ?_) (fun h10 => ?_)
      · try simp only [Bool.and_eq_true, Bool.or_eq_true, Bool.not_eq_true', Bool.and_eq_false_iff, Bool.or_eq_false_iff, Bool.not_eq_false', decide_eq_true_eq, decide_eq_false_iff_not, beq_iff_eq, bne_iff_ne, beq_eq_false_iff_ne, bne_eq_false_iff_eq, Bool.true_and, ne_eq, Decidable.not_not, Int.not_lt, Int.not_le, Nat.not_lt, Nat.not_le, strB_nil, strB_nil', strB_nnil, strB_nnil'] at h10
        refine run_skip ?_
        refine run_seq ?_
        refine run_block ?_
        refine run_seq ?_
        refine run_region (q_idx_rm .n (.t rfl) (.t rfl) sl_25 (fun _ => by omega) rfl <| q_ld1_ro .n (.t rfl) rfl ic_2 rfl <| q_assign .n (.t rfl) rfl <| Lex.nil) ?_
        refine run_seq ?_
        refine run_region (q_move .n (.t rfl) rfl <| q_nilc_ow .n (.t rfl) rfl <| q_fld_ow .n (.t rfl) fo_84_2 rfl <| q_ld1_ow .n (.t rfl) rfl (.inr rfl) (fun _ => rfl) rfl ic_25 rfl <| q_move .n (.t rfl) rfl <| q_idx_ow .n (.t rfl) (.t rfl) sl_25 (fun _ => by ((have hf : x1.2.1 = s_.free := (by assumption); have hq := hat x1.2.2.2.2.2.2 (by omega) (by omega) (by omega); (try dsimp only); (try simp only [hf, put_len]); omega))) rfl <| q_ld1_row .n (.t rfl) rfl (fun _ => by ((have hf : x1.2.1 = s_.free := (by assumption); have hq := hat x1.2.2.2.2.2.2 (by omega) (by omega) (by omega); (try dsimp only); (try simp only [hf, put_len]); omega))) rfl rfl rfl ic_2 rfl <| q_move .n (.t rfl) rfl <| q_int .n (.t rfl) (.t rfl) rfl rfl <| q_move .n (.t rfl) rfl <| q_move (.t rfl rfl) (.t rfl) rfl <| q_move (.t rfl rfl) (.t rfl) rfl <| q_int (.t rfl rfl) (.u rfl id) (.u rfl id) rfl rfl <| q_move (.t rfl rfl) (.t rfl) rfl <| q_int (.t rfl rfl) (.u rfl id) (.u rfl id) rfl rfl <| q_move (.t rfl rfl) (.t rfl) rfl <| q_nilc_ow (.t rfl rfl) (.u rfl id) rfl <| q_fld_ow (.t rfl rfl) (.u rfl id) fo_84_6 rfl <| q_ld1_ow (.t rfl rfl) (.u rfl id) rfl (.inr rfl) (fun _ => rfl) rfl ic_2 rfl <| q_int (.t rfl rfl) (.u rfl id) (.u rfl id) rfl rfl <| q_and .n (.t rfl) (.u rfl id) rfl <| Lex.nil) ?_
        refine run_cond (.t rfl) rfl (fun h11 => ?_) (fun h11 => ?_)
        · try simp only [Bool.and_eq_true, Bool.or_eq_true, Bool.not_eq_true', Bool.and_eq_false_iff, Bool.or_eq_false_iff, Bool.not_eq_false', decide_eq_true_eq, decide_eq_false_iff_not, beq_iff_eq, bne_iff_ne, beq_eq_false_iff_ne, bne_eq_false_iff_eq, Bool.true_and, ne_eq, Decidable.not_not, Int.not_lt, Int.not_le, Nat.not_lt, Nat.not_le, strB_nil, strB_nil', strB_nnil, strB_nnil'] at h11
          refine run_seq ?_
          refine run_region (q_move .n (.t rfl) rfl <| q_nilc_ow .n (.t rfl) rfl <| q_fld_ow .n (.t rfl) fo_84_2 rfl <| q_ld1_ow .n (.t rfl) rfl (.inr rfl) (fun _ => rfl) rfl ic_25 rfl <| q_move .n (.t rfl) rfl <| q_idx_ow .n (.t rfl) (.t rfl) sl_25 (fun _ => by ((have hf : x1.2.1 = s_.free := (by assumption); have hq := hat x1.2.2.2.2.2.2 (by omega) (by omega) (by omega); (try dsimp only); (try simp only [hf, put_len]); omega))) rfl <| q_ld1_row .n (.t rfl) rfl (fun _ => by ((have hf : x1.2.1 = s_.free := (by assumption); have hq := hat x1.2.2.2.2.2.2 (by omega) (by omega) (by omega); (try dsimp only); (try simp only [hf, put_len]); omega))) rfl rfl rfl ic_2 rfl <| q_move .n (.t rfl) rfl <| q_int .n (.t rfl) (.t rfl) rfl rfl <| q_idx_ow .n (.t rfl) (.t rfl) sl_25 (fun _ => by ((have hf : x1.2.1 = s_.free := (by assumption); have hq := hat x1.2.2.2.2.2.2 (by omega) (by omega) (by omega); (try dsimp only); (try simp only [hf, put_len]); omega))) rfl <| q_st_rowm (IntKind.wrap .i64 ((at' x1.2.1 (at' (at' s_.reached (s_.places.length : Int)) x1.2.2.2.2.2.2)) - (at' s_.sizes (s_.places.length : Int)))) .n rfl (.t rfl) (.t rfl) rfl ts_2 (by ((have hf : x1.2.1 = s_.free := (by assumption); have hq := hat x1.2.2.2.2.2.2 (by omega) (by omega) (by omega); (try dsimp only); (try simp only [hf, put_len]); omega))) rfl rfl <| Lex.nil) ?_
          refine run_seq ?_
          refine run_region (q_move .n (.t rfl) rfl <| q_move .n (.t rfl) rfl <| q_move .n (.t rfl) rfl <| q_move .n (.t rfl) rfl <| q_int .n (.t rfl) (.t rfl) rfl rfl <| q_callM (full := false) [(0, 0), (11, 200), (12, 201), (14, 202), (15, 203)] [(100, 205), (101, 206), (102, 207), (103, 208)] .n rfl .f en_70 (.cons (.t rfl) (.cons (.t rfl) (.cons (.t rfl) .nil))) (.cons (.b (.mutp rfl)) (.cons (.b (.a (.same rfl))) (.cons (.b (.a (.same rfl))) .nil))) (c_impl_placeSearch_node fuel self_ ih hself (gplaceSearch.mk s_.sizes x1.1 (put' x1.2.1 (at' (at' s_.reached (s_.places.length : Int)) x1.2.2.2.2.2.2) (IntKind.wrap .i64 ((at' x1.2.1 (at' (at' s_.reached (s_.places.length : Int)) x1.2.2.2.2.2.2)) - (at' s_.sizes (s_.places.length : Int))))) x1.2.2.1 x1.2.2.2.1 x1.2.2.2.2.1 x1.2.2.2.2.2.1) (at' (at' s_.reached (s_.places.length : Int)) x1.2.2.2.2.2.2) (IntKind.wrap .i64 (persons + (at' s_.sizes (s_.places.length : Int)))) (by (exact (visit_step (fuel := fuel) (re := x1.1) (fr := x1.2.1) (bu := x1.2.2.1) (pl := x1.2.2.2.1) (be := x1.2.2.2.2.1) (mo := x1.2.2.2.2.2.1) (i := x1.2.2.2.2.2.2) hself hp1 (by omega) (by omega) (by assumption) (by assumption) (by assumption) (by omega) (by omega) (by first | assumption | omega) (by first | assumption | omega)).1)) (by omega) (by (exact (visit_step (fuel := fuel) (re := x1.1) (fr := x1.2.1) (bu := x1.2.2.1) (pl := x1.2.2.2.1) (be := x1.2.2.2.2.1) (mo := x1.2.2.2.2.2.1) (i := x1.2.2.2.2.2.2) hself hp1 (by omega) (by omega) (by assumption) (by assumption) (by assumption) (by omega) (by omega) (by first | assumption | omega) (by first | assumption | omega)).2.1)) (by (exact (visit_step (fuel := fuel) (re := x1.1) (fr := x1.2.1) (bu := x1.2.2.1) (pl := x1.2.2.2.1) (be := x1.2.2.2.2.1) (mo := x1.2.2.2.2.2.1) (i := x1.2.2.2.2.2.2) hself hp1 (by omega) (by omega) (by assumption) (by assumption) (by assumption) (by omega) (by omega) (by first | assumption | omega) (by first | assumption | omega)).2.2.1))) ⟨(Eq.trans (b := some (.box 84 [.sl 1 (s_.sizes.map (V.int .i64)), .os 200 x1.1.length, .os 201 x1.2.1.length, .int .i64 x1.2.2.1, .os 202 x1.2.2.2.1.length, .os 203 x1.2.2.2.2.1.length, .int .i64 x1.2.2.2.2.2.1] : O)) rfl (Eq.trans (b := some (.box 84 [.sl 1 (s_.sizes.map (V.int .i64)), .os 200 x1.1.length, .os 201 (put' x1.2.1 (at' (at' s_.reached (s_.places.length : Int)) x1.2.2.2.2.2.2) (IntKind.wrap .i64 ((at' x1.2.1 (at' (at' s_.reached (s_.places.length : Int)) x1.2.2.2.2.2.2)) - (at' s_.sizes (s_.places.length : Int))))).length, .int .i64 x1.2.2.1, .os 202 x1.2.2.2.1.length, .os 203 x1.2.2.2.2.1.length, .int .i64 x1.2.2.2.2.2.1] : O)) (by simp only [put_len]) rfl)), rfl, rfl, rfl, rfl, trivial⟩ rfl rfl (fun h => Bool.noConfusion h) (fun h => Bool.noConfusion h) rfl <| Lex.nil) ?_
          refine run_region (q_move .n (.t rfl) rfl <| q_nilc_ow .n (.t rfl) rfl <| q_fld_ow .n (.t rfl) fo_84_2 rfl <| q_ld1_ow .n (.t rfl) rfl (.inr rfl) (fun _ => rfl) rfl ic_25 rfl <| q_move .n (.t rfl) rfl <| q_idx_ow .n (.t rfl) (.t rfl) sl_25 (fun _ => by (exact (visit_step (fuel := fuel) (re := x1.1) (fr := x1.2.1) (bu := x1.2.2.1) (pl := x1.2.2.2.1) (be := x1.2.2.2.2.1) (mo := x1.2.2.2.2.2.1) (i := x1.2.2.2.2.2.2) hself hp1 (by omega) (by omega) (by assumption) (by assumption) (by assumption) (by omega) (by omega) (by first | assumption | omega) (by first | assumption | omega)).2.2.2.2.2.2.1)) rfl <| q_ld1_row .n (.t rfl) rfl (fun _ => by (exact (visit_step (fuel := fuel) (re := x1.1) (fr := x1.2.1) (bu := x1.2.2.1) (pl := x1.2.2.2.1) (be := x1.2.2.2.2.1) (mo := x1.2.2.2.2.2.1) (i := x1.2.2.2.2.2.2) hself hp1 (by omega) (by omega) (by assumption) (by assumption) (by assumption) (by omega) (by omega) (by first | assumption | omega) (by first | assumption | omega)).2.2.2.2.2.2.1)) rfl rfl rfl ic_2 rfl <| q_move .n (.t rfl) rfl <| q_int .n (.t rfl) (.t rfl) rfl rfl <| q_idx_ow .n (.t rfl) (.t rfl) sl_25 (fun _ => by (exact (visit_step (fuel := fuel) (re := x1.1) (fr := x1.2.1) (bu := x1.2.2.1) (pl := x1.2.2.2.1) (be := x1.2.2.2.2.1) (mo := x1.2.2.2.2.2.1) (i := x1.2.2.2.2.2.2) hself hp1 (by omega) (by omega) (by assumption) (by assumption) (by assumption) (by omega) (by omega) (by first | assumption | omega) (by first | assumption | omega)).2.2.2.2.2.2.1)) rfl <| q_st_rowm (IntKind.wrap .i64 ((at' (m_impl_placeSearch_node self_ (gplaceSearch.mk s_.sizes x1.1 (put' x1.2.1 (at' (at' s_.reached (s_.places.length : Int)) x1.2.2.2.2.2.2) (IntKind.wrap .i64 ((at' x1.2.1 (at' (at' s_.reached (s_.places.length : Int)) x1.2.2.2.2.2.2)) - (at' s_.sizes (s_.places.length : Int))))) x1.2.2.1 x1.2.2.2.1 x1.2.2.2.2.1 x1.2.2.2.2.2.1) (at' (at' s_.reached (s_.places.length : Int)) x1.2.2.2.2.2.2) (IntKind.wrap .i64 (persons + (at' s_.sizes (s_.places.length : Int))))).free (at' (at' s_.reached (s_.places.length : Int)) x1.2.2.2.2.2.2)) + (at' s_.sizes (s_.places.length : Int)))) .n rfl (.t rfl) (.t rfl) rfl ts_2 (by (exact (visit_step (fuel := fuel) (re := x1.1) (fr := x1.2.1) (bu := x1.2.2.1) (pl := x1.2.2.2.1) (be := x1.2.2.2.2.1) (mo := x1.2.2.2.2.2.1) (i := x1.2.2.2.2.2.2) hself hp1 (by omega) (by omega) (by assumption) (by assumption) (by assumption) (by omega) (by omega) (by first | assumption | omega) (by first | assumption | omega)).2.2.2.2.2.2.1)) rfl rfl <| Lex.nil) ?_
          refine run_endB ?_
          refine run_region (q_add .n (.t rfl) (.c rfl) (fun _ => by omega) rfl <| q_move .n (.t rfl) rfl <| Lex.nil) ?_
          exact run_again ((m_impl_placeSearch_node self_ (gplaceSearch.mk s_.sizes x1.1 (put' x1.2.1 (at' (at' s_.reached (s_.places.length : Int)) x1.2.2.2.2.2.2) (IntKind.wrap .i64 ((at' x1.2.1 (at' (at' s_.reached (s_.places.length : Int)) x1.2.2.2.2.2.2)) - (at' s_.sizes (s_.places.length : Int))))) x1.2.2.1 x1.2.2.2.1 x1.2.2.2.2.1 x1.2.2.2.2.2.1) (at' (at' s_.reached (s_.places.length : Int)) x1.2.2.2.2.2.2) (IntKind.wrap .i64 (persons + (at' s_.sizes (s_.places.length : Int))))).reached, put' (m_impl_placeSearch_node self_ (gplaceSearch.mk s_.sizes x1.1 (put' x1.2.1 (at' (at' s_.reached (s_.places.length : Int)) x1.2.2.2.2.2.2) (IntKind.wrap .i64 ((at' x1.2.1 (at' (at' s_.reached (s_.places.length : Int)) x1.2.2.2.2.2.2)) - (at' s_.sizes (s_.places.length : Int))))) x1.2.2.1 x1.2.2.2.1 x1.2.2.2.2.1 x1.2.2.2.2.2.1) (at' (at' s_.reached (s_.places.length : Int)) x1.2.2.2.2.2.2) (IntKind.wrap .i64 (persons + (at' s_.sizes (s_.places.length : Int))))).free (at' (at' s_.reached (s_.places.length : Int)) x1.2.2.2.2.2.2) (IntKind.wrap .i64 ((at' (m_impl_placeSearch_node self_ (gplaceSearch.mk s_.sizes x1.1 (put' x1.2.1 (at' (at' s_.reached (s_.places.length : Int)) x1.2.2.2.2.2.2) (IntKind.wrap .i64 ((at' x1.2.1 (at' (at' s_.reached (s_.places.length : Int)) x1.2.2.2.2.2.2)) - (at' s_.sizes (s_.places.length : Int))))) x1.2.2.1 x1.2.2.2.1 x1.2.2.2.2.1 x1.2.2.2.2.2.1) (at' (at' s_.reached (s_.places.length : Int)) x1.2.2.2.2.2.2) (IntKind.wrap .i64 (persons + (at' s_.sizes (s_.places.length : Int))))).free (at' (at' s_.reached (s_.places.length : Int)) x1.2.2.2.2.2.2)) + (at' s_.sizes (s_.places.length : Int)))), (m_impl_placeSearch_node self_ (gplaceSearch.mk s_.sizes x1.1 (put' x1.2.1 (at' (at' s_.reached (s_.places.length : Int)) x1.2.2.2.2.2.2) (IntKind.wrap .i64 ((at' x1.2.1 (at' (at' s_.reached (s_.places.length : Int)) x1.2.2.2.2.2.2)) - (at' s_.sizes (s_.places.length : Int))))) x1.2.2.1 x1.2.2.2.1 x1.2.2.2.2.1 x1.2.2.2.2.2.1) (at' (at' s_.reached (s_.places.length : Int)) x1.2.2.2.2.2.2) (IntKind.wrap .i64 (persons + (at' s_.sizes (s_.places.length : Int))))).budget, (m_impl_placeSearch_node self_ (gplaceSearch.mk s_.sizes x1.1 (put' x1.2.1 (at' (at' s_.reached (s_.places.length : Int)) x1.2.2.2.2.2.2) (IntKind.wrap .i64 ((at' x1.2.1 (at' (at' s_.reached (s_.places.length : Int)) x1.2.2.2.2.2.2)) - (at' s_.sizes (s_.places.length : Int))))) x1.2.2.1 x1.2.2.2.1 x1.2.2.2.2.1 x1.2.2.2.2.2.1) (at' (at' s_.reached (s_.places.length : Int)) x1.2.2.2.2.2.2) (IntKind.wrap .i64 (persons + (at' s_.sizes (s_.places.length : Int))))).places, (m_impl_placeSearch_node self_ (gplaceSearch.mk s_.sizes x1.1 (put' x1.2.1 (at' (at' s_.reached (s_.places.length : Int)) x1.2.2.2.2.2.2) (IntKind.wrap .i64 ((at' x1.2.1 (at' (at' s_.reached (s_.places.length : Int)) x1.2.2.2.2.2.2)) - (at' s_.sizes (s_.places.length : Int))))) x1.2.2.1 x1.2.2.2.1 x1.2.2.2.2.1 x1.2.2.2.2.2.1) (at' (at' s_.reached (s_.places.length : Int)) x1.2.2.2.2.2.2) (IntKind.wrap .i64 (persons + (at' s_.sizes (s_.places.length : Int))))).best, (m_impl_placeSearch_node self_ (gplaceSearch.mk s_.sizes x1.1 (put' x1.2.1 (at' (at' s_.reached (s_.places.length : Int)) x1.2.2.2.2.2.2) (IntKind.wrap .i64 ((at' x1.2.1 (at' (at' s_.reached (s_.places.length : Int)) x1.2.2.2.2.2.2)) - (at' s_.sizes (s_.places.length : Int))))) x1.2.2.1 x1.2.2.2.1 x1.2.2.2.2.1 x1.2.2.2.2.2.1) (at' (at' s_.reached (s_.places.length : Int)) x1.2.2.2.2.2.2) (IntKind.wrap .i64 (persons + (at' s_.sizes (s_.places.length : Int))))).most, x1.2.2.2.2.2.2 + 1) ⟨by (simp only [List.length_append, List.length_cons, List.length_nil, List.length_replicate, put_len] at * <;> omega), by assumption, by (exact (visit_step (fuel := fuel) (re := x1.1) (fr := x1.2.1) (bu := x1.2.2.1) (pl := x1.2.2.2.1) (be := x1.2.2.2.2.1) (mo := x1.2.2.2.2.2.1) (i := x1.2.2.2.2.2.2) hself hp1 (by omega) (by omega) (by assumption) (by assumption) (by assumption) (by omega) (by omega) (by first | assumption | omega) (by first | assumption | omega)).2.2.2.1), by (exact (visit_step (fuel := fuel) (re := x1.1) (fr := x1.2.1) (bu := x1.2.2.1) (pl := x1.2.2.2.1) (be := x1.2.2.2.2.1) (mo := x1.2.2.2.2.2.1) (i := x1.2.2.2.2.2.2) hself hp1 (by omega) (by omega) (by assumption) (by assumption) (by assumption) (by omega) (by omega) (by first | assumption | omega) (by first | assumption | omega)).2.2.2.2.2.2.2), by (exact (visit_step (fuel := fuel) (re := x1.1) (fr := x1.2.1) (bu := x1.2.2.1) (pl := x1.2.2.2.1) (be := x1.2.2.2.2.1) (mo := x1.2.2.2.2.2.1) (i := x1.2.2.2.2.2.2) hself hp1 (by omega) (by omega) (by assumption) (by assumption) (by assumption) (by omega) (by omega) (by first | assumption | omega) (by first | assumption | omega)).2.2.2.2.1), by (exact (visit_step (fuel := fuel) (re := x1.1) (fr := x1.2.1) (bu := x1.2.2.1) (pl := x1.2.2.2.1) (be := x1.2.2.2.2.1) (mo := x1.2.2.2.2.2.1) (i := x1.2.2.2.2.2.2) hself hp1 (by omega) (by omega) (by assumption) (by assumption) (by assumption) (by omega) (by omega) (by first | assumption | omega) (by first | assumption | omega)).2.2.2.2.2.1)⟩ (by (simp only [List.length_append, List.length_cons, List.length_nil, List.length_replicate, put_len] at * <;> omega)) (sub_of [(200, 205), (201, 206), (202, 207), (203, 208)] ⟨rfl, rfl, rfl, rfl, rfl, rfl, rfl, trivial⟩ ⟨(Eq.trans (b := some (.box 84 [.sl 1 (s_.sizes.map (V.int .i64)), .os 205 (m_impl_placeSearch_node self_ (gplaceSearch.mk s_.sizes x1.1 (put' x1.2.1 (at' (at' s_.reached (s_.places.length : Int)) x1.2.2.2.2.2.2) (IntKind.wrap .i64 ((at' x1.2.1 (at' (at' s_.reached (s_.places.length : Int)) x1.2.2.2.2.2.2)) - (at' s_.sizes (s_.places.length : Int))))) x1.2.2.1 x1.2.2.2.1 x1.2.2.2.2.1 x1.2.2.2.2.2.1) (at' (at' s_.reached (s_.places.length : Int)) x1.2.2.2.2.2.2) (IntKind.wrap .i64 (persons + (at' s_.sizes (s_.places.length : Int))))).reached.length, .os 206 (m_impl_placeSearch_node self_ (gplaceSearch.mk s_.sizes x1.1 (put' x1.2.1 (at' (at' s_.reached (s_.places.length : Int)) x1.2.2.2.2.2.2) (IntKind.wrap .i64 ((at' x1.2.1 (at' (at' s_.reached (s_.places.length : Int)) x1.2.2.2.2.2.2)) - (at' s_.sizes (s_.places.length : Int))))) x1.2.2.1 x1.2.2.2.1 x1.2.2.2.2.1 x1.2.2.2.2.2.1) (at' (at' s_.reached (s_.places.length : Int)) x1.2.2.2.2.2.2) (IntKind.wrap .i64 (persons + (at' s_.sizes (s_.places.length : Int))))).free.length, .int .i64 (m_impl_placeSearch_node self_ (gplaceSearch.mk s_.sizes x1.1 (put' x1.2.1 (at' (at' s_.reached (s_.places.length : Int)) x1.2.2.2.2.2.2) (IntKind.wrap .i64 ((at' x1.2.1 (at' (at' s_.reached (s_.places.length : Int)) x1.2.2.2.2.2.2)) - (at' s_.sizes (s_.places.length : Int))))) x1.2.2.1 x1.2.2.2.1 x1.2.2.2.2.1 x1.2.2.2.2.2.1) (at' (at' s_.reached (s_.places.length : Int)) x1.2.2.2.2.2.2) (IntKind.wrap .i64 (persons + (at' s_.sizes (s_.places.length : Int))))).budget, .os 207 (m_impl_placeSearch_node self_ (gplaceSearch.mk s_.sizes x1.1 (put' x1.2.1 (at' (at' s_.reached (s_.places.length : Int)) x1.2.2.2.2.2.2) (IntKind.wrap .i64 ((at' x1.2.1 (at' (at' s_.reached (s_.places.length : Int)) x1.2.2.2.2.2.2)) - (at' s_.sizes (s_.places.length : Int))))) x1.2.2.1 x1.2.2.2.1 x1.2.2.2.2.1 x1.2.2.2.2.2.1) (at' (at' s_.reached (s_.places.length : Int)) x1.2.2.2.2.2.2) (IntKind.wrap .i64 (persons + (at' s_.sizes (s_.places.length : Int))))).places.length, .os 208 (m_impl_placeSearch_node self_ (gplaceSearch.mk s_.sizes x1.1 (put' x1.2.1 (at' (at' s_.reached (s_.places.length : Int)) x1.2.2.2.2.2.2) (IntKind.wrap .i64 ((at' x1.2.1 (at' (at' s_.reached (s_.places.length : Int)) x1.2.2.2.2.2.2)) - (at' s_.sizes (s_.places.length : Int))))) x1.2.2.1 x1.2.2.2.1 x1.2.2.2.2.1 x1.2.2.2.2.2.1) (at' (at' s_.reached (s_.places.length : Int)) x1.2.2.2.2.2.2) (IntKind.wrap .i64 (persons + (at' s_.sizes (s_.places.length : Int))))).best.length, .int .i64 (m_impl_placeSearch_node self_ (gplaceSearch.mk s_.sizes x1.1 (put' x1.2.1 (at' (at' s_.reached (s_.places.length : Int)) x1.2.2.2.2.2.2) (IntKind.wrap .i64 ((at' x1.2.1 (at' (at' s_.reached (s_.places.length : Int)) x1.2.2.2.2.2.2)) - (at' s_.sizes (s_.places.length : Int))))) x1.2.2.1 x1.2.2.2.1 x1.2.2.2.2.1 x1.2.2.2.2.2.1) (at' (at' s_.reached (s_.places.length : Int)) x1.2.2.2.2.2.2) (IntKind.wrap .i64 (persons + (at' s_.sizes (s_.places.length : Int))))).most] : O)) rfl (Eq.trans (b := some (.box 84 [.sl 1 (s_.sizes.map (V.int .i64)), .os 205 (m_impl_placeSearch_node self_ (gplaceSearch.mk s_.sizes x1.1 (put' x1.2.1 (at' (at' s_.reached (s_.places.length : Int)) x1.2.2.2.2.2.2) (IntKind.wrap .i64 ((at' x1.2.1 (at' (at' s_.reached (s_.places.length : Int)) x1.2.2.2.2.2.2)) - (at' s_.sizes (s_.places.length : Int))))) x1.2.2.1 x1.2.2.2.1 x1.2.2.2.2.1 x1.2.2.2.2.2.1) (at' (at' s_.reached (s_.places.length : Int)) x1.2.2.2.2.2.2) (IntKind.wrap .i64 (persons + (at' s_.sizes (s_.places.length : Int))))).reached.length, .os 206 (put' (m_impl_placeSearch_node self_ (gplaceSearch.mk s_.sizes x1.1 (put' x1.2.1 (at' (at' s_.reached (s_.places.length : Int)) x1.2.2.2.2.2.2) (IntKind.wrap .i64 ((at' x1.2.1 (at' (at' s_.reached (s_.places.length : Int)) x1.2.2.2.2.2.2)) - (at' s_.sizes (s_.places.length : Int))))) x1.2.2.1 x1.2.2.2.1 x1.2.2.2.2.1 x1.2.2.2.2.2.1) (at' (at' s_.reached (s_.places.length : Int)) x1.2.2.2.2.2.2) (IntKind.wrap .i64 (persons + (at' s_.sizes (s_.places.length : Int))))).free (at' (at' s_.reached (s_.places.length : Int)) x1.2.2.2.2.2.2) (IntKind.wrap .i64 ((at' (m_impl_placeSearch_node self_ (gplaceSearch.mk s_.sizes x1.1 (put' x1.2.1 (at' (at' s_.reached (s_.places.length : Int)) x1.2.2.2.2.2.2) (IntKind.wrap .i64 ((at' x1.2.1 (at' (at' s_.reached (s_.places.length : Int)) x1.2.2.2.2.2.2)) - (at' s_.sizes (s_.places.length : Int))))) x1.2.2.1 x1.2.2.2.1 x1.2.2.2.2.1 x1.2.2.2.2.2.1) (at' (at' s_.reached (s_.places.length : Int)) x1.2.2.2.2.2.2) (IntKind.wrap .i64 (persons + (at' s_.sizes (s_.places.length : Int))))).free (at' (at' s_.reached (s_.places.length : Int)) x1.2.2.2.2.2.2)) + (at' s_.sizes (s_.places.length : Int))))).length, .int .i64 (m_impl_placeSearch_node self_ (gplaceSearch.mk s_.sizes x1.1 (put' x1.2.1 (at' (at' s_.reached (s_.places.length : Int)) x1.2.2.2.2.2.2) (IntKind.wrap .i64 ((at' x1.2.1 (at' (at' s_.reached (s_.places.length : Int)) x1.2.2.2.2.2.2)) - (at' s_.sizes (s_.places.length : Int))))) x1.2.2.1 x1.2.2.2.1 x1.2.2.2.2.1 x1.2.2.2.2.2.1) (at' (at' s_.reached (s_.places.length : Int)) x1.2.2.2.2.2.2) (IntKind.wrap .i64 (persons + (at' s_.sizes (s_.places.length : Int))))).budget, .os 207 (m_impl_placeSearch_node self_ (gplaceSearch.mk s_.sizes x1.1 (put' x1.2.1 (at' (at' s_.reached (s_.places.length : Int)) x1.2.2.2.2.2.2) (IntKind.wrap .i64 ((at' x1.2.1 (at' (at' s_.reached (s_.places.length : Int)) x1.2.2.2.2.2.2)) - (at' s_.sizes (s_.places.length : Int))))) x1.2.2.1 x1.2.2.2.1 x1.2.2.2.2.1 x1.2.2.2.2.2.1) (at' (at' s_.reached (s_.places.length : Int)) x1.2.2.2.2.2.2) (IntKind.wrap .i64 (persons + (at' s_.sizes (s_.places.length : Int))))).places.length, .os 208 (m_impl_placeSearch_node self_ (gplaceSearch.mk s_.sizes x1.1 (put' x1.2.1 (at' (at' s_.reached (s_.places.length : Int)) x1.2.2.2.2.2.2) (IntKind.wrap .i64 ((at' x1.2.1 (at' (at' s_.reached (s_.places.length : Int)) x1.2.2.2.2.2.2)) - (at' s_.sizes (s_.places.length : Int))))) x1.2.2.1 x1.2.2.2.1 x1.2.2.2.2.1 x1.2.2.2.2.2.1) (at' (at' s_.reached (s_.places.length : Int)) x1.2.2.2.2.2.2) (IntKind.wrap .i64 (persons + (at' s_.sizes (s_.places.length : Int))))).best.length, .int .i64 (m_impl_placeSearch_node self_ (gplaceSearch.mk s_.sizes x1.1 (put' x1.2.1 (at' (at' s_.reached (s_.places.length : Int)) x1.2.2.2.2.2.2) (IntKind.wrap .i64 ((at' x1.2.1 (at' (at' s_.reached (s_.places.length : Int)) x1.2.2.2.2.2.2)) - (at' s_.sizes (s_.places.length : Int))))) x1.2.2.1 x1.2.2.2.1 x1.2.2.2.2.1 x1.2.2.2.2.2.1) (at' (at' s_.reached (s_.places.length : Int)) x1.2.2.2.2.2.2) (IntKind.wrap .i64 (persons + (at' s_.sizes (s_.places.length : Int))))).most] : O)) (by simp only [put_len]) rfl)), rfl, rfl, rfl, rfl, trivial⟩ rfl)
        · try simp only [Bool.and_eq_true, Bool.or_eq_true, Bool.not_eq_true', Bool.and_eq_false_iff, Bool.or_eq_false_iff, Bool.not_eq_false', decide_eq_true_eq, decide_eq_false_iff_not, beq_iff_eq, bne_iff_ne, beq_eq_false_iff_ne, bne_eq_false_iff_eq, Bool.true_and, ne_eq, Decidable.not_not, Int.not_lt, Int.not_le, Nat.not_lt, Nat.not_le, strB_nil, strB_nil', strB_nnil, strB_nnil'] at h11
          refine run_skip ?_
          refine run_endB ?_
          refine run_region (q_add .n (.t rfl) (.c rfl) (fun _ => by omega) rfl <| q_move .n (.t rfl) rfl <| Lex.nil) ?_
          exact run_again (x1.1, x1.2.1, x1.2.2.1, x1.2.2.2.1, x1.2.2.2.2.1, x1.2.2.2.2.2.1, x1.2.2.2.2.2.2 + 1) ⟨by (simp only [List.length_append, List.length_cons, List.length_nil, List.length_replicate, put_len] at * <;> omega), by assumption, by omega, by omega, by omega, by omega⟩ (by (simp only [List.length_append, List.length_cons, List.length_nil, List.length_replicate, put_len] at * <;> omega)) (sub_of [] ⟨rfl, rfl, rfl, rfl, rfl, rfl, rfl, trivial⟩ ⟨rfl, rfl, rfl, rfl, rfl, trivial⟩ rfl)
      · try simp only [Bool.and_eq_true, Bool.or_eq_true, Bool.not_eq_true', Bool.and_eq_false_iff, Bool.or_eq_false_iff, Bool.not_eq_false', decide_eq_true_eq, decide_eq_false_iff_not, beq_iff_eq, bne_iff_ne, beq_eq_false_iff_ne, bne_eq_false_iff_eq, Bool.true_and, ne_eq, Decidable.not_not, Int.not_lt, Int.not_le, Nat.not_lt, Nat.not_le, strB_nil, strB_nil', strB_nnil, strB_nnil'] at h10
        refine run_exit rfl ?_
        exact run_cont hk8 (x1.1, x1.2.1, x1.2.2.1, x1.2.2.2.1, x1.2.2.2.2.1, x1.2.2.2.2.2.1, x1.2.2.2.2.2.2) ⟨by omega, by omega, by omega, by omega, by omega, by omega, by omega⟩ (sub_of [] ⟨rfl, rfl, rfl, trivial⟩ ⟨rfl, rfl, rfl, rfl, rfl, trivial⟩ rfl)
theorem c_impl_placeSearch_visit (s_ : gplaceSearch) (persons : Int) (hp1 : PI s_.sizes s_.reached s_.free s_.places persons) (hp2 : -1 ≤ s_.budget ∧ s_.budget ≤ 20000) (hp3 : s_.most < persons + rstf s_.sizes s_.places.length) : Con Try.prog 41 [.op 0 0 0 0, .int .i64 persons] [(0, some (.box 84 [.sl 1 (s_.sizes.map (V.int .i64)), .os 11 s_.reached.length, .os 12 s_.free.length, .int .i64 s_.budget, .os 14 s_.places.length, .os 15 s_.best.length, .int .i64 s_.most])), (11, some (.row 25 1 (s_.reached.map (slv 1 (V.int .i64))))), (12, some (.row 2 1 (s_.free.map (V.int .i64)))), (14, some (.row 2 1 (s_.places.map (V.int .i64)))), (15, some (.row 2 1 (s_.best.map (V.int .i64))))] (.tup []) ([(100, some (.row 25 1 ((m_impl_placeSearch_visit s_ persons).reached.map (slv 1 (V.int .i64))))), (101, some (.row 2 1 ((m_impl_placeSearch_visit s_ persons).free.map (V.int .i64)))), (102, some (.row 2 1 ((m_impl_placeSearch_visit s_ persons).places.map (V.int .i64)))), (103, some (.row 2 1 ((m_impl_placeSearch_visit s_ persons).best.map (V.int .i64)))), (0, some (.box 84 [.sl 1 (s_.sizes.map (V.int .i64)), .os 100 (m_impl_placeSearch_visit s_ persons).reached.length, .os 101 (m_impl_placeSearch_visit s_ persons).free.length, .int .i64 (m_impl_placeSearch_visit s_ persons).budget, .os 102 (m_impl_placeSearch_visit s_ persons).places.length, .os 103 (m_impl_placeSearch_visit s_ persons).best.length, .int .i64 (m_impl_placeSearch_visit s_ persons).most]))]) := by
  exact c_impl_placeSearch_visit_n (((s_.sizes.length : Int) - s_.places.length).toNat + 1) s_ persons hp1 hp2 hp3 (by omega)


/-! ### impl_AssignCrews -/
set_option maxRecDepth 100000 in
set_option maxHeartbeats 4000000 in
theorem c_impl_AssignCrews (m_ : gMine) (arrivals : List Int) (blocked : Int) (crews : List gCrew) (sizes : List Int) (start : Int) (list : List gRefuge) (budget : Int) : Con Try.prog 12 [.st [.int .i64 m_.Junctions, .sl 7 (m_.Airways.map gAirway.v)], .sl 1 (arrivals.map (V.int .i64)), .int .i64 blocked, .sl 3 (crews.map gCrew.v), .sl 1 (sizes.map (V.int .i64)), .int .i64 start, .sl 4 (list.map gRefuge.v), .int .i64 budget] [] (.tup [.os 100 (m_impl_AssignCrews m_ arrivals blocked crews sizes start list budget).1.length, .int .i64 (m_impl_AssignCrews m_ arrivals blocked crews sizes start list budget).2.1, .int .i64 (m_impl_AssignCrews m_ arrivals blocked crews sizes start list budget).2.2]) ([(100, some (.row 2 1 ((m_impl_AssignCrews m_ arrivals blocked crews sizes start list budget).1.map (V.int .i64))))]) := by
  refine ConG.con ?_ rfl (hr_row (fun _ => rfl) hr_nil)
  refine con_introG (out := fun r : (List Int) × Int × Int => ((.tup [.os 100 r.1.length, .int .i64 r.2.1, .int .i64 r.2.2] : V), ([(100, some (.row 2 1 (r.1.map (V.int .i64))))] : List (Nat × Option O)))) (r := (m_impl_AssignCrews m_ arrivals blocked crews sizes start list budget)) Try.func12 rfl Try.ntmps12 rfl ?_
  refine run_factS (t := 0) 1 rfl rfl fun hl => ?_
  have l1 := hl; clear hl; simp only [List.length_map] at l1
  refine run_fact (t := 1) rfl fun hl => ?_
  have l2 := hl; clear hl; simp only [List.length_map] at l2
  refine run_fact (t := 3) rfl fun hl => ?_
  have l3 := hl; clear hl; simp only [List.length_map] at l3
  refine run_fact (t := 4) rfl fun hl => ?_
  have l4 := hl; clear hl; simp only [List.length_map] at l4
  refine run_fact (t := 6) rfl fun hl => ?_
  have l5 := hl; clear hl; simp only [List.length_map] at l5
  refine run_seq ?_
  refine run_region (q_box (l := 200) .n rfl (.t rfl) rfl rfl rfl rfl <| q_assign .n (.c rfl) rfl <| q_assign .n (.c rfl) rfl <| q_assign .n (.c rfl) rfl <| Lex.nil) ?_
  refine run_seq ?_
  refine run_region (q_ldN_ow .n (.t rfl) rfl (.inr rfl) ag_35 (fun _ => rfl) rfl rfl <| q_move .n (.t rfl) rfl <| q_move .n (.t rfl) rfl <| q_move .n (.t rfl) rfl <| q_move .n (.t rfl) rfl <| q_call0 (full := false) .n .f en_36 (.cons (.t rfl) (.cons (.t rfl) (.cons (.t rfl) (.cons (.t rfl) (.cons (.t rfl) (.cons (.c rfl) .nil)))))) (.cons (.sts rfl) (.cons (.b (.a (.same rfl))) (.cons (.b (.a (.same rfl))) (.cons (.b (.a (.same rfl))) (.cons (.b (.a (.same rfl))) (.cons (.b (.a .nls)) .nil)))))) (fun hg => c_impl_escapeOf m_ arrivals blocked crews start []) rfl (fun h => Bool.noConfusion h) rfl <| q_move .n (.t rfl) rfl <| q_ext .n (.t rfl) rfl rfl rfl <| q_ext .n (.t rfl) rfl rfl rfl <| q_alloc (l := 201) .n rfl zv_78 rfl rfl <| q_st_boxm [.int .i64 (m_impl_escapeOf m_ arrivals blocked crews start []).1.mine.Junctions, .sl 7 ((m_impl_escapeOf m_ arrivals blocked crews start []).1.mine.Airways.map gAirway.v), .sl 1 ((m_impl_escapeOf m_ arrivals blocked crews start []).1.arrivals.map (V.int .i64)), .int .i64 (m_impl_escapeOf m_ arrivals blocked crews start []).1.blocked] .n rfl (.t rfl) (.t rfl) rfl ts_78 rfl rfl <| q_assign .n (.t rfl) rfl <| Lex.nil) ?_
  refine run_seq ?_
  refine run_block ?_
  refine run_seq ?_
  refine run_region (q_move .n (.t rfl) rfl <| q_int .n (.t rfl) (.c rfl) rfl rfl <| q_move .n (.t rfl) rfl <| q_ldN_ow (.f rfl rfl) (.t rfl) rfl (.inr rfl) ag_35 (fun _ => rfl) rfl rfl <| q_move (.f rfl rfl) (.t rfl) rfl <| q_call0 (full := false) (.f rfl rfl) .f en_37 (.cons (.u rfl id) (.cons (.u rfl id) .nil)) (.cons (.sts rfl) (.cons (.b (.a (.same rfl))) .nil)) (fun hg => c_impl_ValidRefuges m_ list) rfl (fun h => Bool.noConfusion h) rfl <| q_not (.f rfl rfl) (.u rfl id) rfl <| q_or .n (.t rfl) (.u rfl id) rfl <| q_assign .n (.t rfl) rfl <| Lex.nil) ?_
  refine run_cond (.t rfl) rfl (fun h6 => ?_) (fun h6 => ?_)
  · try simp only [Bool.and_eq_true, Bool.or_eq_true, Bool.not_eq_true', Bool.and_eq_false_iff, Bool.or_eq_false_iff, Bool.not_eq_false', decide_eq_true_eq, decide_eq_false_iff_not, beq_iff_eq, bne_iff_ne, beq_eq_false_iff_ne, bne_eq_false_iff_eq, Bool.true_and, ne_eq, Decidable.not_not, Int.not_lt, Int.not_le, Nat.not_lt, Nat.not_le, strB_nil, strB_nil', strB_nnil, strB_nnil'] at h6
    try have hf0h6 := escT_S h6
    try have hf1h6 := escT_S h6.1
    try have hf2h6 := escT_S h6.2
    try have hf3h6 := escT_S h6.1.1
    try have hf4h6 := escT_S h6.1.2
    try have hf5h6 := escT_S h6.2.1
    try have hf6h6 := escT_S h6.2.2
    try have hf7h6 := escT_N h6
    try have hf8h6 := escT_N h6.1
    try have hf9h6 := escT_N h6.2
    try have hf10h6 := escT_N h6.1.1
    try have hf11h6 := escT_N h6.1.2
    try have hf12h6 := escT_N h6.2.1
    try have hf13h6 := escT_N h6.2.2
    try have hf14h6 := ValidRefuges_imp h6
    try have hf15h6 := ValidRefuges_imp h6.1
    try have hf16h6 := ValidRefuges_imp h6.2
    try have hf17h6 := ValidRefuges_imp h6.1.1
    try have hf18h6 := ValidRefuges_imp h6.1.2
    try have hf19h6 := ValidRefuges_imp h6.2.1
    try have hf20h6 := ValidRefuges_imp h6.2.2
    refine run_seq ?_
    refine run_region (q_assign .n (.c rfl) rfl <| q_assign .n (.c rfl) rfl <| q_assign .n (.c rfl) rfl <| Lex.nil) ?_
    refine run_sub (sub_adopt (t := 16) (l := 202) (el := 2) (sz := 1) rfl rfl) ?_
    exact run_ret [(100, 202)] (.cons (.t rfl rfl) (.cons (.t rfl rfl) (.cons (.t rfl rfl) .nil))) (by first | rfl | (simp only [put_len]; rfl)) ⟨rfl, trivial⟩ rfl
  · try simp only [Bool.and_eq_true, Bool.or_eq_true, Bool.not_eq_true', Bool.and_eq_false_iff, Bool.or_eq_false_iff, Bool.not_eq_false', decide_eq_true_eq, decide_eq_false_iff_not, beq_iff_eq, bne_iff_ne, beq_eq_false_iff_ne, bne_eq_false_iff_eq, Bool.true_and, ne_eq, Decidable.not_not, Int.not_lt, Int.not_le, Nat.not_lt, Nat.not_le, strB_nil, strB_nil', strB_nnil, strB_nnil'] at h6
    try have hf0h6 := escT_S h6
    try have hf1h6 := escT_S h6.1
    try have hf2h6 := escT_S h6.2
    try have hf3h6 := escT_S h6.1.1
    try have hf4h6 := escT_S h6.1.2
    try have hf5h6 := escT_S h6.2.1
    try have hf6h6 := escT_S h6.2.2
    try have hf7h6 := escT_N h6
    try have hf8h6 := escT_N h6.1
    try have hf9h6 := escT_N h6.2
    try have hf10h6 := escT_N h6.1.1
    try have hf11h6 := escT_N h6.1.2
    try have hf12h6 := escT_N h6.2.1
    try have hf13h6 := escT_N h6.2.2
    try have hf14h6 := ValidRefuges_imp h6
    try have hf15h6 := ValidRefuges_imp h6.1
    try have hf16h6 := ValidRefuges_imp h6.2
    try have hf17h6 := ValidRefuges_imp h6.1.1
    try have hf18h6 := ValidRefuges_imp h6.1.2
    try have hf19h6 := ValidRefuges_imp h6.2.1
    try have hf20h6 := ValidRefuges_imp h6.2.2
    refine run_seq ?_
    refine run_region (q_move .n (.t rfl) rfl <| q_int .n (.t rfl) (.c rfl) rfl rfl <| q_move .n (.t rfl) rfl <| q_move (.f rfl rfl) (.t rfl) rfl <| q_call0 (full := false) (.f rfl rfl) .f en_38 (.cons (.u rfl id) .nil) (.cons (.b (.a (.same rfl))) .nil) (fun hg => c_impl_budgetValid budget) rfl (fun h => Bool.noConfusion h) rfl <| q_not (.f rfl rfl) (.u rfl id) rfl <| q_or .n (.t rfl) (.u rfl id) rfl <| q_assign .n (.t rfl) rfl <| Lex.nil) ?_
    refine run_cond (.t rfl) rfl (fun h7 => ?_) (fun h7 => ?_)
    · try simp only [Bool.and_eq_true, Bool.or_eq_true, Bool.not_eq_true', Bool.and_eq_false_iff, Bool.or_eq_false_iff, Bool.not_eq_false', decide_eq_true_eq, decide_eq_false_iff_not, beq_iff_eq, bne_iff_ne, beq_eq_false_iff_ne, bne_eq_false_iff_eq, Bool.true_and, ne_eq, Decidable.not_not, Int.not_lt, Int.not_le, Nat.not_lt, Nat.not_le, strB_nil, strB_nil', strB_nnil, strB_nnil'] at h7
      try have hf0h7 := escT_S h7
      try have hf1h7 := escT_S h7.1
      try have hf2h7 := escT_S h7.2
      try have hf3h7 := escT_S h7.1.1
      try have hf4h7 := escT_S h7.1.2
      try have hf5h7 := escT_S h7.2.1
      try have hf6h7 := escT_S h7.2.2
      try have hf7h7 := escT_N h7
      try have hf8h7 := escT_N h7.1
      try have hf9h7 := escT_N h7.2
      try have hf10h7 := escT_N h7.1.1
      try have hf11h7 := escT_N h7.1.2
      try have hf12h7 := escT_N h7.2.1
      try have hf13h7 := escT_N h7.2.2
      try have hf14h7 := budget_imp h7
      try have hf15h7 := budget_imp h7.1
      try have hf16h7 := budget_imp h7.2
      try have hf17h7 := budget_imp h7.1.1
      try have hf18h7 := budget_imp h7.1.2
      try have hf19h7 := budget_imp h7.2.1
      try have hf20h7 := budget_imp h7.2.2
      refine run_seq ?_
      refine run_region (q_assign .n (.c rfl) rfl <| q_assign .n (.c rfl) rfl <| q_assign .n (.c rfl) rfl <| Lex.nil) ?_
      refine run_sub (sub_adopt (t := 16) (l := 203) (el := 2) (sz := 1) rfl rfl) ?_
      exact run_ret [(100, 203)] (.cons (.t rfl rfl) (.cons (.t rfl rfl) (.cons (.t rfl rfl) .nil))) (by first | rfl | (simp only [put_len]; rfl)) ⟨rfl, trivial⟩ rfl
    · try simp only [Bool.and_eq_true, Bool.or_eq_true, Bool.not_eq_true', Bool.and_eq_false_iff, Bool.or_eq_false_iff, Bool.not_eq_false', decide_eq_true_eq, decide_eq_false_iff_not, beq_iff_eq, bne_iff_ne, beq_eq_false_iff_ne, bne_eq_false_iff_eq, Bool.true_and, ne_eq, Decidable.not_not, Int.not_lt, Int.not_le, Nat.not_lt, Nat.not_le, strB_nil, strB_nil', strB_nnil, strB_nnil'] at h7
      try have hf0h7 := escT_S h7
      try have hf1h7 := escT_S h7.1
      try have hf2h7 := escT_S h7.2
      try have hf3h7 := escT_S h7.1.1
      try have hf4h7 := escT_S h7.1.2
      try have hf5h7 := escT_S h7.2.1
      try have hf6h7 := escT_S h7.2.2
      try have hf7h7 := escT_N h7
      try have hf8h7 := escT_N h7.1
      try have hf9h7 := escT_N h7.2
      try have hf10h7 := escT_N h7.1.1
      try have hf11h7 := escT_N h7.1.2
      try have hf12h7 := escT_N h7.2.1
      try have hf13h7 := escT_N h7.2.2
      try have hf14h7 := budget_imp h7
      try have hf15h7 := budget_imp h7.1
      try have hf16h7 := budget_imp h7.2
      try have hf17h7 := budget_imp h7.1.1
      try have hf18h7 := budget_imp h7.1.2
      try have hf19h7 := budget_imp h7.2.1
      try have hf20h7 := budget_imp h7.2.2
      refine run_seq ?_
      refine run_region (q_move .n (.t rfl) rfl <| q_int .n (.t rfl) (.c rfl) rfl rfl <| q_move .n (.t rfl) rfl <| q_move (.f rfl rfl) (.t rfl) rfl <| q_len (.f rfl rfl) (.u rfl id) rfl len_map ss_25 rfl <| q_move (.f rfl rfl) (.t rfl) rfl <| q_len (.f rfl rfl) (.u rfl id) rfl len_map ss_38 rfl <| q_int (.f rfl rfl) (.u rfl id) (.u rfl id) rfl rfl <| q_or .n (.t rfl) (.u rfl id) rfl <| q_move .n (.t rfl) rfl <| q_move (.f rfl rfl) (.t rfl) rfl <| q_call0 (full := false) (.f rfl rfl) .f en_39 (.cons (.u rfl id) (.cons (.c rfl) (.cons (.c rfl) .nil))) (.cons (.b (.a (.same rfl))) (.cons (.b (.a (.same rfl))) (.cons (.b (.a (.same rfl))) .nil))) (fun hg => c_impl_allWithin sizes 1 200) rfl (fun h => Bool.noConfusion h) rfl <| q_not (.f rfl rfl) (.u rfl id) rfl <| q_or .n (.t rfl) (.u rfl id) rfl <| q_assign .n (.t rfl) rfl <| Lex.nil) ?_
      refine run_cond (.t rfl) rfl (fun h8 => ?_) (fun h8 => ?_)
      · try simp only [Bool.and_eq_true, Bool.or_eq_true, Bool.not_eq_true', Bool.and_eq_false_iff, Bool.or_eq_false_iff, Bool.not_eq_false', decide_eq_true_eq, decide_eq_false_iff_not, beq_iff_eq, bne_iff_ne, beq_eq_false_iff_ne, bne_eq_false_iff_eq, Bool.true_and, ne_eq, Decidable.not_not, Int.not_lt, Int.not_le, Nat.not_lt, Nat.not_le, strB_nil, strB_nil', strB_nnil, strB_nnil'] at h8
        try have hf0h8 := escT_S h8
        try have hf1h8 := escT_S h8.1
        try have hf2h8 := escT_S h8.2
        try have hf3h8 := escT_S h8.1.1
        try have hf4h8 := escT_S h8.1.2
        try have hf5h8 := escT_S h8.2.1
        try have hf6h8 := escT_S h8.2.2
        try have hf7h8 := escT_N h8
        try have hf8h8 := escT_N h8.1
        try have hf9h8 := escT_N h8.2
        try have hf10h8 := escT_N h8.1.1
        try have hf11h8 := escT_N h8.1.2
        try have hf12h8 := escT_N h8.2.1
        try have hf13h8 := escT_N h8.2.2
        refine run_seq ?_
        refine run_region (q_assign .n (.c rfl) rfl <| q_assign .n (.c rfl) rfl <| q_assign .n (.c rfl) rfl <| Lex.nil) ?_
        refine run_sub (sub_adopt (t := 16) (l := 204) (el := 2) (sz := 1) rfl rfl) ?_
        exact run_ret [(100, 204)] (.cons (.t rfl rfl) (.cons (.t rfl rfl) (.cons (.t rfl rfl) .nil))) (by first | rfl | (simp only [put_len]; rfl)) ⟨rfl, trivial⟩ rfl
      · try simp only [Bool.and_eq_true, Bool.or_eq_true, Bool.not_eq_true', Bool.and_eq_false_iff, Bool.or_eq_false_iff, Bool.not_eq_false', decide_eq_true_eq, decide_eq_false_iff_not, beq_iff_eq, bne_iff_ne, beq_eq_false_iff_ne, bne_eq_false_iff_eq, Bool.true_and, ne_eq, Decidable.not_not, Int.not_lt, Int.not_le, Nat.not_lt, Nat.not_le, strB_nil, strB_nil', strB_nnil, strB_nnil'] at h8
        try have hf0h8 := escT_S h8
        try have hf1h8 := escT_S h8.1
        try have hf2h8 := escT_S h8.2
        try have hf3h8 := escT_S h8.1.1
        try have hf4h8 := escT_S h8.1.2
        try have hf5h8 := escT_S h8.2.1
        try have hf6h8 := escT_S h8.2.2
        try have hf7h8 := escT_N h8
        try have hf8h8 := escT_N h8.1
        try have hf9h8 := escT_N h8.2
        try have hf10h8 := escT_N h8.1.1
        try have hf11h8 := escT_N h8.1.2
        try have hf12h8 := escT_N h8.2.1
        try have hf13h8 := escT_N h8.2.2
        refine run_skip ?_
        refine run_endB ?_
        refine run_seq ?_
        refine run_region (q_move .n (.t rfl) rfl <| q_move .n (.t rfl) rfl <| q_build (us := [.sl 1 (sizes.map (V.int .i64)), .nls, .nls, .int .i64 budget, .nls, .nls, .int .i64 (-1)]) .n (.cons (.t rfl) (.cons (.t rfl) (.cons (.c rfl) .nil))) zv_84 pl_84 rfl rfl rfl <| q_alloc (l := 205) .n rfl zv_84 rfl rfl <| q_st_boxm [.sl 1 (sizes.map (V.int .i64)), .nls, .nls, .int .i64 budget, .nls, .nls, .int .i64 (-1)] .n rfl (.t rfl) (.t rfl) rfl ts_84 rfl rfl <| Lex.nil) ?_
        refine run_seq ?_
        refine run_seq ?_
        refine run_region (q_move .n (.t rfl) rfl <| q_len .n (.t rfl) rfl len_map ss_40 rfl <| q_move .n (.c rfl) rfl <| Lex.nil) ?_
        refine run_block ?_
        refine run_sub (sub_adoptb (b := 205) (l := 206) (el := 2) (sz := 1) 2 rfl rfl rfl rfl) ?_
        refine run_LOOPG (m_impl_AssignCrews_b1 m_ arrivals blocked crews sizes start list budget) _ _ _ rfl (fun (x1 : (List Int) × Int) => 0 ≤ x1.2 ∧ x1.2 ≤ (list.length : Int) ∧ (x1.1.length : Int) + 0 ≤ x1.2 + (([] : List Int).length : Int) ∧ (x1.1.length : Int) = x1.2 ∧ (∀ y ∈ x1.1, 0 ≤ y ∧ y ≤ 200)) (fun x1 => 0 ≤ x1.2 ∧ x1.2 ≤ (list.length : Int) ∧ (x1.1.length : Int) + 0 ≤ x1.2 + (([] : List Int).length : Int) ∧ (x1.1.length : Int) = x1.2 ∧ (∀ y ∈ x1.1, 0 ≤ y ∧ y ≤ 200) ∧ (list.length : Int) ≤ x1.2) (fun x1 => ((list.length : Int) - x1.2 : Int).toNat) (fun x1 => ⟨[(3, some (true, .sl 3 (crews.map gCrew.v))), (5, some (true, .int .i64 start)), (6, some (true, .sl 4 (list.map gRefuge.v))), (19, some (true, .op 201 0 0 0)), (21, some (true, .op 205 0 0 0)), (74, some (true, .sl 4 (list.map gRefuge.v))), (75, some (true, .int .i64 (list.length : Int))), (76, some (true, .int .i64 x1.2))], [(201, some (.box 78 [.int .i64 (m_impl_escapeOf m_ arrivals blocked crews start []).1.mine.Junctions, .sl 7 ((m_impl_escapeOf m_ arrivals blocked crews start []).1.mine.Airways.map gAirway.v), .sl 1 ((m_impl_escapeOf m_ arrivals blocked crews start []).1.arrivals.map (V.int .i64)), .int .i64 (m_impl_escapeOf m_ arrivals blocked crews start []).1.blocked])), (205, some (.box 84 [.sl 1 (sizes.map (V.int .i64)), .nls, .os 206 x1.1.length, .int .i64 budget, .nls, .nls, .int .i64 (-1)])), (206, some (.row 2 1 (x1.1.map (V.int .i64))))]⟩) (fun x1 => ⟨[(3, some (true, .sl 3 (crews.map gCrew.v))), (5, some (true, .int .i64 start)), (6, some (true, .sl 4 (list.map gRefuge.v))), (19, some (true, .op 201 0 0 0)), (21, some (true, .op 205 0 0 0))], [(201, some (.box 78 [.int .i64 (m_impl_escapeOf m_ arrivals blocked crews start []).1.mine.Junctions, .sl 7 ((m_impl_escapeOf m_ arrivals blocked crews start []).1.mine.Airways.map gAirway.v), .sl 1 ((m_impl_escapeOf m_ arrivals blocked crews start []).1.arrivals.map (V.int .i64)), .int .i64 (m_impl_escapeOf m_ arrivals blocked crews start []).1.blocked])), (205, some (.box 84 [.sl 1 (sizes.map (V.int .i64)), .nls, .os 206 x1.1.length, .int .i64 budget, .nls, .nls, .int .i64 (-1)])), (206, some (.row 2 1 (x1.1.map (V.int .i64))))]⟩) ⟨by omega, by omega, by (simp only [List.length_append, List.length_cons, List.length_nil, List.length_replicate, put_len] at * <;> omega), by (simp only [List.length_append, List.length_cons, List.length_nil, List.length_replicate, put_len] at * <;> omega), by ((intro y hy; simp at hy))⟩ (by omega) (sub_of [] ⟨rfl, rfl, rfl, rfl, rfl, rfl, rfl, rfl, trivial⟩ ⟨rfl, rfl, rfl, trivial⟩ rfl) rfl ?_ ?_
        · intro x1 i12
          obtain ⟨e45, e46, e47, e48, e49, e50⟩ := i12
          try dsimp only at *
          refine run_seq ?_
          refine run_seq ?_
          refine run_region (q_move .n (.t rfl) rfl <| q_len .n (.t rfl) rfl len_map ss_38 rfl <| q_move .n (.c rfl) rfl <| Lex.nil) ?_
          refine run_block ?_
          refine run_sub (sub_adoptb (b := 205) (l := 210) (el := 25) (sz := 1) 1 rfl rfl rfl rfl) ?_
          refine run_LOOPG (m_impl_AssignCrews_b2 m_ arrivals blocked crews sizes start list budget x1) _ _ _ rfl (fun (x2 : (List (List Int)) × Int) => 0 ≤ x2.2 ∧ x2.2 ≤ (crews.length : Int) ∧ (x2.1.length : Int) + 0 ≤ x2.2 + (([] : List (List Int)).length : Int) ∧ (x2.1.length : Int) = x2.2 ∧ (∀ l ∈ x2.1, ∀ r ∈ l, 0 ≤ r ∧ r < list.length)) (fun x2 => 0 ≤ x2.2 ∧ x2.2 ≤ (crews.length : Int) ∧ (x2.1.length : Int) + 0 ≤ x2.2 + (([] : List (List Int)).length : Int) ∧ (x2.1.length : Int) = x2.2 ∧ (∀ l ∈ x2.1, ∀ r ∈ l, 0 ≤ r ∧ r < list.length) ∧ (crews.length : Int) ≤ x2.2) (fun x2 => ((crews.length : Int) - x2.2 : Int).toNat) (fun x2 => ⟨[(5, some (true, .int .i64 start)), (6, some (true, .sl 4 (list.map gRefuge.v))), (19, some (true, .op 201 0 0 0)), (21, some (true, .op 205 0 0 0)), (88, some (true, .sl 3 (crews.map gCrew.v))), (89, some (true, .int .i64 (crews.length : Int))), (90, some (true, .int .i64 x2.2))], [(201, some (.box 78 [.int .i64 (m_impl_escapeOf m_ arrivals blocked crews start []).1.mine.Junctions, .sl 7 ((m_impl_escapeOf m_ arrivals blocked crews start []).1.mine.Airways.map gAirway.v), .sl 1 ((m_impl_escapeOf m_ arrivals blocked crews start []).1.arrivals.map (V.int .i64)), .int .i64 (m_impl_escapeOf m_ arrivals blocked crews start []).1.blocked])), (205, some (.box 84 [.sl 1 (sizes.map (V.int .i64)), .os 210 x2.1.length, .os 206 x1.1.length, .int .i64 budget, .nls, .nls, .int .i64 (-1)])), (206, some (.row 2 1 (x1.1.map (V.int .i64)))), (210, some (.row 25 1 (x2.1.map (slv 1 (V.int .i64)))))]⟩) (fun x2 => ⟨[(21, some (true, .op 205 0 0 0))], [(205, some (.box 84 [.sl 1 (sizes.map (V.int .i64)), .os 210 x2.1.length, .os 206 x1.1.length, .int .i64 budget, .nls, .nls, .int .i64 (-1)])), (206, some (.row 2 1 (x1.1.map (V.int .i64)))), (210, some (.row 25 1 (x2.1.map (slv 1 (V.int .i64)))))]⟩) ⟨by omega, by omega, by (simp only [List.length_append, List.length_cons, List.length_nil, List.length_replicate, put_len] at * <;> omega), by (simp only [List.length_append, List.length_cons, List.length_nil, List.length_replicate, put_len] at * <;> omega), by ((intro y hy; simp at hy))⟩ (by omega) (sub_of [] ⟨rfl, rfl, rfl, rfl, rfl, rfl, rfl, trivial⟩ ⟨rfl, rfl, rfl, rfl, trivial⟩ rfl) rfl ?_ ?_
          · intro x2 i32
            obtain ⟨e34, e35, e36, e37, e38, e39⟩ := i32
            try dsimp only at *
            refine run_seq ?_
            refine run_sub (sub_adoptb (b := 205) (l := 220) (el := 2) (sz := 1) 4 rfl rfl rfl rfl) ?_
            refine run_sub (sub_adoptb (b := 205) (l := 221) (el := 2) (sz := 1) 5 rfl rfl rfl rfl) ?_
            refine run_region (q_callM (full := false) [(0, 205), (11, 210), (12, 206), (14, 220), (15, 221)] [(100, 222), (101, 223), (102, 224), (103, 225)] .n rfl .f en_41 (.cons (.t rfl) (.cons (.c rfl) .nil)) (.cons (.b (.mutp rfl)) (.cons (.b (.a (.same rfl))) .nil)) (c_impl_placeSearch_visit (gplaceSearch.mk sizes x2.1 x1.1 budget ([] : List Int) ([] : List Int) (-1)) 0 (by (exact PI.of (sizes := sizes) (rows := x2.1) (left := x1.1) (n := list.length) (allWithin_iff.1 (And.right (by assumption))) (by omega) (by omega) (by assumption) (by omega) (by assumption))) (by ((have hq := bud_in (And.right (by assumption)); (try dsimp only); omega))) (by (exact PI.pos (PI.of (sizes := sizes) (rows := x2.1) (left := x1.1) (n := list.length) (allWithin_iff.1 (And.right (by assumption))) (by omega) (by omega) (by assumption) (by omega) (by assumption))))) ⟨rfl, rfl, rfl, rfl, rfl, trivial⟩ rfl rfl (fun h => Bool.noConfusion h) (fun h => Bool.noConfusion h) rfl <| Lex.nil) ?_
            refine run_seq ?_
            refine run_seq ?_
            refine run_region (q_fld_ow .n (.t rfl) fo_84_3 rfl <| q_ld1_ow .n (.t rfl) rfl (.inr rfl) (fun _ => rfl) rfl ic_2 rfl <| q_int .n (.t rfl) (.c rfl) rfl rfl <| Lex.nil) ?_
            refine run_cond (.t rfl) rfl (fun h33 => ?_) (fun h33 => ?_)
            · try simp only [Bool.and_eq_true, Bool.or_eq_true, Bool.not_eq_true', Bool.and_eq_false_iff, Bool.or_eq_false_iff, Bool.not_eq_false', decide_eq_true_eq, decide_eq_false_iff_not, beq_iff_eq, bne_iff_ne, beq_eq_false_iff_ne, bne_eq_false_iff_eq, Bool.true_and, ne_eq, Decidable.not_not, Int.not_lt, Int.not_le, Nat.not_lt, Nat.not_le, strB_nil, strB_nil', strB_nnil, strB_nnil'] at h33
              refine run_seq ?_
              refine run_region (q_assign .n (.c rfl) rfl <| q_assign .n (.c rfl) rfl <| q_assign .n (.c rfl) rfl <| Lex.nil) ?_
              refine run_sub (sub_adopt (t := 16) (l := 226) (el := 2) (sz := 1) rfl rfl) ?_
              exact run_ret [(100, 226)] (.cons (.t rfl rfl) (.cons (.t rfl rfl) (.cons (.t rfl rfl) .nil))) (by first | rfl | (simp only [put_len]; rfl)) ⟨rfl, trivial⟩ rfl
            · try simp only [Bool.and_eq_true, Bool.or_eq_true, Bool.not_eq_true', Bool.and_eq_false_iff, Bool.or_eq_false_iff, Bool.not_eq_false', decide_eq_true_eq, decide_eq_false_iff_not, beq_iff_eq, bne_iff_ne, beq_eq_false_iff_ne, bne_eq_false_iff_eq, Bool.true_and, ne_eq, Decidable.not_not, Int.not_lt, Int.not_le, Nat.not_lt, Nat.not_le, strB_nil, strB_nil', strB_nnil, strB_nnil'] at h33
              refine run_skip ?_
              refine run_seq ?_
              refine run_draw fmo (q_fld_ow .n (.t rfl) fo_84_5 rfl <| q_ld1_ow .n (.t rfl) rfl (.inr rfl) (fun _ => rfl) rfl ic_25 rfl <| q_fld_ow .n (.t rfl) fo_84_6 rfl <| q_ld1_ow .n (.t rfl) rfl (.inr rfl) (fun _ => rfl) rfl ic_2 rfl <| q_assign .n (.t rfl) rfl <| q_assign .n (.t rfl) rfl <| q_assign .n (.c rfl) rfl <| Lex.nil) (by kernel_rfl) ?_
              exact run_ret [(100, 225)] (.cons (.t rfl rfl) (.cons (.t rfl rfl) (.cons (.t rfl rfl) .nil))) (by first | rfl | (simp only [put_len]; rfl)) ⟨rfl, trivial⟩ rfl
          · intro rec2 k2 hk13 x2 i14
            obtain ⟨e40, e41, e42, e43, e44⟩ := i14
            try dsimp only at *
            refine run_seq ?_
            refine run_region (q_int .n (.t rfl) (.t rfl) rfl rfl <| Lex.nil) ?_
            refine run_seq ?_
            refine run_cond (.t rfl) rfl (fun h15 => ?_) (fun h15 => ?_)
            · try simp only [Bool.and_eq_true, Bool.or_eq_true, Bool.not_eq_true', Bool.and_eq_false_iff, Bool.or_eq_false_iff, Bool.not_eq_false', decide_eq_true_eq, decide_eq_false_iff_not, beq_iff_eq, bne_iff_ne, beq_eq_false_iff_ne, bne_eq_false_iff_eq, Bool.true_and, ne_eq, Decidable.not_not, Int.not_lt, Int.not_le, Nat.not_lt, Nat.not_le, strB_nil, strB_nil', strB_nnil, strB_nnil'] at h15
              refine run_skip ?_
              refine run_seq ?_
              refine run_block ?_
              refine run_seq ?_
              refine run_region (q_idx_rm .n (.t rfl) (.t rfl) sl_38 (fun _ => by omega) rfl <| q_ldN_ro .n (.t rfl) ag_71 rfl rfl rfl <| q_alloc (l := 211) .n rfl zv_71 rfl rfl <| q_st_boxm [.str (at' crews x2.2).Id, .int .i64 (at' crews x2.2).Junction, .int .i64 (at' crews x2.2).Speed] .n rfl (.t rfl) (.t rfl) rfl ts_71 rfl rfl <| Lex.nil) ?_
              refine run_seq ?_
              refine run_region (q_ldN_ow .n (.t rfl) rfl (.inr rfl) ag_78 (fun _ => rfl) rfl rfl <| q_ldN_ow .n (.t rfl) rfl (.inr rfl) ag_71 (fun _ => rfl) rfl rfl <| q_move .n (.t rfl) rfl <| q_callM (full := false) [] [(100, 212)] .n rfl .f en_40 (.cons (.t rfl) (.cons (.t rfl) (.cons (.t rfl) .nil))) (.cons (.sts rfl) (.cons (.sts rfl) (.cons (.b (.a (.same rfl))) .nil))) (c_impl_escape_times (m_impl_escapeOf m_ arrivals blocked crews start []).1 (at' crews x2.2) start (by (exact escT_M (And.left (And.left (by assumption))))) (by (exact escT_L (And.left (And.left (by assumption))))) (by (exact escT_C (And.left (And.left (by assumption))) (by omega))) (by omega)) trivial rfl rfl (fun h => Bool.noConfusion h) (fun h => Bool.noConfusion h) rfl <| q_assign .n (.t rfl) rfl <| Lex.nil) ?_
              refine run_seq ?_
              refine run_region (q_assign .n (.c rfl) rfl <| Lex.nil) ?_
              refine run_seq ?_
              refine run_seq ?_
              refine run_region (q_move .n (.t rfl) rfl <| q_len .n (.t rfl) rfl len_map ss_40 rfl <| q_move .n (.c rfl) rfl <| Lex.nil) ?_
              refine run_block ?_
              refine run_sub (sub_adopt (t := 27) (l := 213) (el := 2) (sz := 1) rfl rfl) ?_
              refine run_LOOPG (m_impl_AssignCrews_b3 m_ arrivals blocked crews sizes start list budget x1 rec2 k2 x2) _ _ _ rfl (fun (x3 : (List Int) × Int) => 0 ≤ x3.2 ∧ x3.2 ≤ (list.length : Int) ∧ (x3.1.length : Int) + 0 ≤ x3.2 + (([] : List Int).length : Int) ∧ (x3.1.length : Int) ≤ x3.2 ∧ (∀ r ∈ x3.1, 0 ≤ r ∧ r < list.length)) (fun x3 => 0 ≤ x3.2 ∧ x3.2 ≤ (list.length : Int) ∧ (x3.1.length : Int) + 0 ≤ x3.2 + (([] : List Int).length : Int) ∧ (x3.1.length : Int) ≤ x3.2 ∧ (∀ r ∈ x3.1, 0 ≤ r ∧ r < list.length) ∧ (list.length : Int) ≤ x3.2) (fun x3 => ((list.length : Int) - x3.2 : Int).toNat) (fun x3 => ⟨[(5, some (true, .int .i64 start)), (6, some (true, .sl 4 (list.map gRefuge.v))), (19, some (true, .op 201 0 0 0)), (21, some (true, .op 205 0 0 0)), (26, some (true, .os 212 (m_impl_escape_times (m_impl_escapeOf m_ arrivals blocked crews start []).1 (at' crews x2.2) start).length)), (27, some (true, .os 213 x3.1.length)), (88, some (true, .sl 3 (crews.map gCrew.v))), (89, some (true, .int .i64 (crews.length : Int))), (90, some (true, .int .i64 x2.2)), (98, some (true, .sl 4 (list.map gRefuge.v))), (99, some (true, .int .i64 (list.length : Int))), (100, some (true, .int .i64 x3.2))], [(201, some (.box 78 [.int .i64 (m_impl_escapeOf m_ arrivals blocked crews start []).1.mine.Junctions, .sl 7 ((m_impl_escapeOf m_ arrivals blocked crews start []).1.mine.Airways.map gAirway.v), .sl 1 ((m_impl_escapeOf m_ arrivals blocked crews start []).1.arrivals.map (V.int .i64)), .int .i64 (m_impl_escapeOf m_ arrivals blocked crews start []).1.blocked])), (205, some (.box 84 [.sl 1 (sizes.map (V.int .i64)), .os 210 x2.1.length, .os 206 x1.1.length, .int .i64 budget, .nls, .nls, .int .i64 (-1)])), (206, some (.row 2 1 (x1.1.map (V.int .i64)))), (210, some (.row 25 1 (x2.1.map (slv 1 (V.int .i64))))), (212, some (.row 2 1 ((m_impl_escape_times (m_impl_escapeOf m_ arrivals blocked crews start []).1 (at' crews x2.2) start).map (V.int .i64)))), (213, some (.row 2 1 (x3.1.map (V.int .i64))))]⟩) (fun x3 => ⟨[(5, some (true, .int .i64 start)), (6, some (true, .sl 4 (list.map gRefuge.v))), (19, some (true, .op 201 0 0 0)), (21, some (true, .op 205 0 0 0)), (27, some (true, .os 213 x3.1.length)), (88, some (true, .sl 3 (crews.map gCrew.v))), (89, some (true, .int .i64 (crews.length : Int))), (90, some (true, .int .i64 x2.2))], [(201, some (.box 78 [.int .i64 (m_impl_escapeOf m_ arrivals blocked crews start []).1.mine.Junctions, .sl 7 ((m_impl_escapeOf m_ arrivals blocked crews start []).1.mine.Airways.map gAirway.v), .sl 1 ((m_impl_escapeOf m_ arrivals blocked crews start []).1.arrivals.map (V.int .i64)), .int .i64 (m_impl_escapeOf m_ arrivals blocked crews start []).1.blocked])), (205, some (.box 84 [.sl 1 (sizes.map (V.int .i64)), .os 210 x2.1.length, .os 206 x1.1.length, .int .i64 budget, .nls, .nls, .int .i64 (-1)])), (206, some (.row 2 1 (x1.1.map (V.int .i64)))), (210, some (.row 25 1 (x2.1.map (slv 1 (V.int .i64))))), (213, some (.row 2 1 (x3.1.map (V.int .i64))))]⟩) ⟨by omega, by omega, by (simp only [List.length_append, List.length_cons, List.length_nil, List.length_replicate, put_len] at * <;> omega), by (simp only [List.length_append, List.length_cons, List.length_nil, List.length_replicate, put_len] at * <;> omega), by ((intro y hy; simp at hy))⟩ (by omega) (sub_of [] ⟨rfl, rfl, rfl, rfl, rfl, rfl, rfl, rfl, rfl, rfl, rfl, rfl, trivial⟩ ⟨rfl, rfl, rfl, rfl, rfl, rfl, trivial⟩ rfl) rfl ?_ ?_
              · intro x3 i20
                obtain ⟨e21, e22, e23, e24, e25, e26⟩ := i20
                try dsimp only at *
                refine run_ro <| ro_lex (l1 := [_, _, _]) (l2 := [_, _, _, _]) rfl (q_fld_ow .n (.t rfl) fo_84_1 rfl <| q_ld1_ow .n (.t rfl) rfl (.inr rfl) (fun _ => rfl) rfl ic_66 rfl <| q_move .n (.t rfl) rfl <| Lex.nil) <| ro_freezeL (l := 213) [27, 118] ⟨rfl, rfl, trivial⟩ rfl (take_all (by simp only [len_map, put_len] <;> rfl)) (by simp only [len_map, put_len] <;> rfl) rfl <| ro_lex (l1 := [_, _, _, _]) (l2 := []) rfl (q_bslicem ([x3.1] : List (List Int)) (f := slv 1 (V.int .i64)) (l := 218) .n rfl rfl (.cons (.t rfl) .nil) rfl si_66 zv_25 rfl rfl rfl <| q_appm (xs := x2.1) (ys := ([x3.1] : List (List Int))) (f := slv 1 (V.int .i64)) (l := 219) .n rfl (.ow (.t rfl) rfl (take_all (by simp only [len_map, put_len] <;> rfl)) (by simp only [len_map, put_len] <;> rfl)) (.ow (.t rfl) rfl (take_all (by simp only [len_map, put_len] <;> rfl)) (by simp only [len_map, put_len] <;> rfl)) si_66 zv_25 rfl (by (simp only [List.length_append, List.length_cons, List.length_nil, List.length_replicate, put_len] at * <;> omega)) rfl rfl <| q_fld_ow .n (.t rfl) fo_84_1 rfl <| q_st_boxm [.sl 1 (sizes.map (V.int .i64)), .os 219 (x2.1 ++ ([x3.1] : List (List Int))).length, .os 206 x1.1.length, .int .i64 budget, .nls, .nls, .int .i64 (-1)] .n rfl (.t rfl) (.t rfl) rfl ts_66 rfl rfl <| Lex.nil) <| ro_end ?_
                refine run_endB ?_
                refine run_region (q_add .n (.t rfl) (.c rfl) (fun _ => by omega) rfl <| q_move .n (.t rfl) rfl <| Lex.nil) ?_
                exact run_againG (x2.1 ++ ([x3.1] : List (List Int)), x2.2 + 1) ⟨by omega, by omega, by (simp only [List.length_append, List.length_cons, List.length_nil, List.length_replicate, put_len] at * <;> omega), by (simp only [List.length_append, List.length_cons, List.length_nil, List.length_replicate, put_len] at * <;> omega), by (exact app_all (by assumption) (by first | omega | assumption))⟩ (by omega) (sub_of [(210, 219)] ⟨rfl, rfl, rfl, rfl, rfl, rfl, rfl, trivial⟩ ⟨rfl, rfl, rfl, rfl, trivial⟩ rfl)
              · intro rec3 k3 hk16 x3 i17
                obtain ⟨e27, e28, e29, e30, e31⟩ := i17
                try dsimp only at *
                refine run_seq ?_
                refine run_region (q_int .n (.t rfl) (.t rfl) rfl rfl <| Lex.nil) ?_
                refine run_seq ?_
                refine run_cond (.t rfl) rfl (fun h18 => ?_) (fun h18 => ?_)
                · try simp only [Bool.and_eq_true, Bool.or_eq_true, Bool.not_eq_true', Bool.and_eq_false_iff, Bool.or_eq_false_iff, Bool.not_eq_false', decide_eq_true_eq, decide_eq_false_iff_not, beq_iff_eq, bne_iff_ne, beq_eq_false_iff_ne, bne_eq_false_iff_eq, Bool.true_and, ne_eq, Decidable.not_not, Int.not_lt, Int.not_le, Nat.not_lt, Nat.not_le, strB_nil, strB_nil', strB_nnil, strB_nnil'] at h18
                  refine run_skip ?_
                  refine run_seq ?_
                  refine run_block ?_
                  refine run_seq ?_
                  refine run_region (q_move .n (.t rfl) rfl <| q_idx_rm .n (.t rfl) (.t rfl) sl_40 (fun _ => by omega) rfl <| q_ldN_ro .n (.t rfl) ag_72 rfl rfl rfl <| q_alloc (l := 215) .n rfl zv_72 rfl rfl <| q_assign .n (.t rfl) rfl <| q_st_boxm [.str (at' list x3.2).Id, .int .i64 (at' list x3.2).Junction, .int .i64 (at' list x3.2).Places, .int .i64 (at' list x3.2).Air] .n rfl (.t rfl) (.t rfl) rfl ts_72 rfl rfl <| Lex.nil) ?_
                  refine run_seq ?_
                  refine run_region (q_move .n (.t rfl) rfl <| q_fld_ow .n (.t rfl) fo_72_1 rfl <| q_ld1_ow .n (.t rfl) rfl (.inr rfl) (fun _ => rfl) rfl ic_2 rfl <| q_idx_ow .n (.t rfl) (.t rfl) sl_25 (fun _ => by ((have hq := asgI_idx (m := m_) (arr := arrivals) (blocked := blocked) (crews := crews) (start := start) (list := list) (i := x2.2) (j := x3.2) (And.left (And.left (by assumption))) (And.right (by assumption)) (by omega) (by omega); omega))) rfl <| q_ld1_row .n (.t rfl) rfl (fun _ => by ((have hq := asgI_idx (m := m_) (arr := arrivals) (blocked := blocked) (crews := crews) (start := start) (list := list) (i := x2.2) (j := x3.2) (And.left (And.left (by assumption))) (And.right (by assumption)) (by omega) (by omega); omega))) rfl rfl rfl ic_2 rfl <| q_int .n (.t rfl) (.c rfl) rfl rfl <| Lex.nil) ?_
                  refine run_cond (.t rfl) rfl (fun h19 => ?_) (fun h19 => ?_)
                  · try simp only [Bool.and_eq_true, Bool.or_eq_true, Bool.not_eq_true', Bool.and_eq_false_iff, Bool.or_eq_false_iff, Bool.not_eq_false', decide_eq_true_eq, decide_eq_false_iff_not, beq_iff_eq, bne_iff_ne, beq_eq_false_iff_ne, bne_eq_false_iff_eq, Bool.true_and, ne_eq, Decidable.not_not, Int.not_lt, Int.not_le, Nat.not_lt, Nat.not_le, strB_nil, strB_nil', strB_nnil, strB_nnil'] at h19
                    refine run_region (q_move .n (.t rfl) rfl <| q_move .n (.t rfl) rfl <| q_bslicem ([x3.2] : List Int) (f := V.int .i64) (l := 216) .n rfl rfl (.cons (.t rfl) .nil) rfl si_25 zv_2 rfl rfl rfl <| q_appm (xs := x3.1) (ys := ([x3.2] : List Int)) (f := V.int .i64) (l := 217) .n rfl (.ow (.t rfl) rfl (take_all (by simp only [len_map, put_len] <;> rfl)) (by simp only [len_map, put_len] <;> rfl)) (.ow (.t rfl) rfl (take_all (by simp only [len_map, put_len] <;> rfl)) (by simp only [len_map, put_len] <;> rfl)) si_25 zv_2 rfl (by ((have hR : RefugeIn m_ list := (by assumption); have hR1 := hR.1; simp only [List.length_append, List.length_cons, List.length_nil]; omega))) rfl rfl <| q_assign .n (.t rfl) rfl <| Lex.nil) ?_
                    refine run_endB ?_
                    refine run_region (q_add .n (.t rfl) (.c rfl) (fun _ => by omega) rfl <| q_move .n (.t rfl) rfl <| Lex.nil) ?_
                    exact run_againG (x3.1 ++ ([x3.2] : List Int), x3.2 + 1) ⟨by omega, by omega, by (simp only [List.length_append, List.length_cons, List.length_nil, List.length_replicate, put_len] at * <;> omega), by (simp only [List.length_append, List.length_cons, List.length_nil, List.length_replicate, put_len] at * <;> omega), by (exact app_all (by assumption) (by first | omega | assumption))⟩ (by omega) (sub_of [(213, 217)] ⟨rfl, rfl, rfl, rfl, rfl, rfl, rfl, rfl, rfl, rfl, rfl, rfl, trivial⟩ ⟨rfl, rfl, rfl, rfl, rfl, rfl, trivial⟩ rfl)
                  · try simp only [Bool.and_eq_true, Bool.or_eq_true, Bool.not_eq_true', Bool.and_eq_false_iff, Bool.or_eq_false_iff, Bool.not_eq_false', decide_eq_true_eq, decide_eq_false_iff_not, beq_iff_eq, bne_iff_ne, beq_eq_false_iff_ne, bne_eq_false_iff_eq, Bool.true_and, ne_eq, Decidable.not_not, Int.not_lt, Int.not_le, Nat.not_lt, Nat.not_le, strB_nil, strB_nil', strB_nnil, strB_nnil'] at h19
                    refine run_skip ?_
                    refine run_endB ?_
                    refine run_region (q_add .n (.t rfl) (.c rfl) (fun _ => by omega) rfl <| q_move .n (.t rfl) rfl <| Lex.nil) ?_
                    exact run_againG (x3.1, x3.2 + 1) ⟨by omega, by omega, by (simp only [List.length_append, List.length_cons, List.length_nil, List.length_replicate, put_len] at * <;> omega), by (simp only [List.length_append, List.length_cons, List.length_nil, List.length_replicate, put_len] at * <;> omega), by omega⟩ (by omega) (sub_of [] ⟨rfl, rfl, rfl, rfl, rfl, rfl, rfl, rfl, rfl, rfl, rfl, rfl, trivial⟩ ⟨rfl, rfl, rfl, rfl, rfl, rfl, trivial⟩ rfl)
                · try simp only [Bool.and_eq_true, Bool.or_eq_true, Bool.not_eq_true', Bool.and_eq_false_iff, Bool.or_eq_false_iff, Bool.not_eq_false', decide_eq_true_eq, decide_eq_false_iff_not, beq_iff_eq, bne_iff_ne, beq_eq_false_iff_ne, bne_eq_false_iff_eq, Bool.true_and, ne_eq, Decidable.not_not, Int.not_lt, Int.not_le, Nat.not_lt, Nat.not_le, strB_nil, strB_nil', strB_nnil, strB_nnil'] at h18
                  refine run_exit rfl ?_
                  exact run_cont hk16 (x3.1, x3.2) ⟨by omega, by omega, by omega, by omega, by omega, by omega⟩ (sub_of [] ⟨rfl, rfl, rfl, rfl, rfl, rfl, rfl, rfl, trivial⟩ ⟨rfl, rfl, rfl, rfl, rfl, trivial⟩ rfl)
            · try simp only [Bool.and_eq_true, Bool.or_eq_true, Bool.not_eq_true', Bool.and_eq_false_iff, Bool.or_eq_false_iff, Bool.not_eq_false', decide_eq_true_eq, decide_eq_false_iff_not, beq_iff_eq, bne_iff_ne, beq_eq_false_iff_ne, bne_eq_false_iff_eq, Bool.true_and, ne_eq, Decidable.not_not, Int.not_lt, Int.not_le, Nat.not_lt, Nat.not_le, strB_nil, strB_nil', strB_nnil, strB_nnil'] at h15
              refine run_exit rfl ?_
              exact run_cont hk13 (x2.1, x2.2) ⟨by omega, by omega, by omega, by omega, by omega, by omega⟩ (sub_of [] ⟨rfl, trivial⟩ ⟨rfl, rfl, rfl, trivial⟩ rfl)
        · intro rec1 k1 hk9 x1 i10
          obtain ⟨e51, e52, e53, e54, e55⟩ := i10
          try dsimp only at *
          refine run_seq ?_
          refine run_region (q_int .n (.t rfl) (.t rfl) rfl rfl <| Lex.nil) ?_
          refine run_seq ?_
          refine run_cond (.t rfl) rfl (fun h11 => ?_) (fun h11 => ?_)
          · try simp only [Bool.and_eq_true, Bool.or_eq_true, Bool.not_eq_true', Bool.and_eq_false_iff, Bool.or_eq_false_iff, Bool.not_eq_false', decide_eq_true_eq, decide_eq_false_iff_not, beq_iff_eq, bne_iff_ne, beq_eq_false_iff_ne, bne_eq_false_iff_eq, Bool.true_and, ne_eq, Decidable.not_not, Int.not_lt, Int.not_le, Nat.not_lt, Nat.not_le, strB_nil, strB_nil', strB_nnil, strB_nnil'] at h11
            refine run_skip ?_
            refine run_seq ?_
            refine run_block ?_
            refine run_seq ?_
            refine run_region (q_idx_rm .n (.t rfl) (.t rfl) sl_40 (fun _ => by omega) rfl <| q_ldN_ro .n (.t rfl) ag_72 rfl rfl rfl <| q_alloc (l := 207) .n rfl zv_72 rfl rfl <| q_st_boxm [.str (at' list x1.2).Id, .int .i64 (at' list x1.2).Junction, .int .i64 (at' list x1.2).Places, .int .i64 (at' list x1.2).Air] .n rfl (.t rfl) (.t rfl) rfl ts_72 rfl rfl <| Lex.nil) ?_
            refine run_region (q_fld_ow .n (.t rfl) fo_84_2 rfl <| q_ld1_ow .n (.t rfl) rfl (.inr rfl) (fun _ => rfl) rfl ic_25 rfl <| q_fld_ow .n (.t rfl) fo_72_2 rfl <| q_ld1_ow .n (.t rfl) rfl (.inr rfl) (fun _ => rfl) rfl ic_2 rfl <| q_bslicem ([(at' list x1.2).Places] : List Int) (f := V.int .i64) (l := 208) .n rfl rfl (.cons (.t rfl) .nil) rfl si_25 zv_2 rfl rfl rfl <| q_appm (xs := x1.1) (ys := ([(at' list x1.2).Places] : List Int)) (f := V.int .i64) (l := 209) .n rfl (.ow (.t rfl) rfl (take_all (by simp only [len_map, put_len] <;> rfl)) (by simp only [len_map, put_len] <;> rfl)) (.ow (.t rfl) rfl (take_all (by simp only [len_map, put_len] <;> rfl)) (by simp only [len_map, put_len] <;> rfl)) si_25 zv_2 rfl (by ((have hR : RefugeIn m_ list := (by assumption); have hR1 := hR.1; simp only [List.length_append, List.length_cons, List.length_nil]; omega))) rfl rfl <| q_fld_ow .n (.t rfl) fo_84_2 rfl <| q_st_boxm [.sl 1 (sizes.map (V.int .i64)), .nls, .os 209 (x1.1 ++ ([(at' list x1.2).Places] : List Int)).length, .int .i64 budget, .nls, .nls, .int .i64 (-1)] .n rfl (.t rfl) (.t rfl) rfl ts_25 rfl rfl <| Lex.nil) ?_
            refine run_endB ?_
            refine run_region (q_add .n (.t rfl) (.c rfl) (fun _ => by omega) rfl <| q_move .n (.t rfl) rfl <| Lex.nil) ?_
            exact run_againG (x1.1 ++ ([(at' list x1.2).Places] : List Int), x1.2 + 1) ⟨by omega, by omega, by (simp only [List.length_append, List.length_cons, List.length_nil, List.length_replicate, put_len] at * <;> omega), by (simp only [List.length_append, List.length_cons, List.length_nil, List.length_replicate, put_len] at * <;> omega), by (((try dsimp only); have hq := places_inI (i := x1.2) (And.right (by assumption) : m_impl_ValidRefuges m_ list = true) (by omega); exact app_all (by assumption) hq))⟩ (by omega) (sub_of [(206, 209)] ⟨rfl, rfl, rfl, rfl, rfl, rfl, rfl, rfl, trivial⟩ ⟨rfl, rfl, rfl, trivial⟩ rfl)
          · try simp only [Bool.and_eq_true, Bool.or_eq_true, Bool.not_eq_true', Bool.and_eq_false_iff, Bool.or_eq_false_iff, Bool.not_eq_false', decide_eq_true_eq, decide_eq_false_iff_not, beq_iff_eq, bne_iff_ne, beq_eq_false_iff_ne, bne_eq_false_iff_eq, Bool.true_and, ne_eq, Decidable.not_not, Int.not_lt, Int.not_le, Nat.not_lt, Nat.not_le, strB_nil, strB_nil', strB_nnil, strB_nnil'] at h11
            refine run_exit rfl ?_
            exact run_cont hk9 (x1.1, x1.2) ⟨by omega, by omega, by omega, by omega, by omega, by omega⟩ (sub_of [] ⟨rfl, rfl, rfl, rfl, rfl, trivial⟩ ⟨rfl, rfl, rfl, trivial⟩ rfl)

/-! ### laws_eqInt64S -/
theorem c_laws_eqInt64S (a : List Int) (b : List Int) : Con Try.prog 13 [.sl 1 (a.map (V.int .i64)), .sl 1 (b.map (V.int .i64))] [] (.bool (m_laws_eqInt64S a b)) ([]) := by
  refine con_intro (out := fun r : Bool => ((.bool r : V), ([] : List (Nat × Option O)))) (r := (m_laws_eqInt64S a b)) Try.func13 rfl Try.ntmps13 rfl ?_
  refine run_fact (t := 0) rfl fun hl => ?_
  have l1 := hl; clear hl; simp only [List.length_map] at l1
  refine run_fact (t := 1) rfl fun hl => ?_
  have l2 := hl; clear hl; simp only [List.length_map] at l2
  refine run_seq ?_
  refine run_region (q_assign .n (.c rfl) rfl <| Lex.nil) ?_
  refine run_seq ?_
  refine run_seq ?_
  refine run_region (q_move .n (.t rfl) rfl <| q_len .n (.t rfl) rfl len_map ss_25 rfl <| q_move .n (.t rfl) rfl <| q_len .n (.t rfl) rfl len_map ss_25 rfl <| q_int .n (.t rfl) (.t rfl) rfl rfl <| Lex.nil) ?_
  refine run_cond (.t rfl) rfl (fun h3 => ?_) (fun h3 => ?_)
  · try simp only [Bool.and_eq_true, Bool.or_eq_true, Bool.not_eq_true', Bool.and_eq_false_iff, Bool.or_eq_false_iff, Bool.not_eq_false', decide_eq_true_eq, decide_eq_false_iff_not, beq_iff_eq, bne_iff_ne, beq_eq_false_iff_ne, bne_eq_false_iff_eq, Bool.true_and, ne_eq, Decidable.not_not, Int.not_lt, Int.not_le, Nat.not_lt, Nat.not_le, strB_nil, strB_nil', strB_nnil, strB_nnil'] at h3
    refine run_seq ?_
    refine run_region (q_assign .n (.c rfl) rfl <| Lex.nil) ?_
    exact run_ret [] (.cons (.t rfl rfl) .nil) rfl trivial rfl
  · try simp only [Bool.and_eq_true, Bool.or_eq_true, Bool.not_eq_true', Bool.and_eq_false_iff, Bool.or_eq_false_iff, Bool.not_eq_false', decide_eq_true_eq, decide_eq_false_iff_not, beq_iff_eq, bne_iff_ne, beq_eq_false_iff_ne, bne_eq_false_iff_eq, Bool.true_and, ne_eq, Decidable.not_not, Int.not_lt, Int.not_le, Nat.not_lt, Nat.not_le, strB_nil, strB_nil', strB_nnil, strB_nnil'] at h3
    refine run_skip ?_
    refine run_seq ?_
    refine run_seq ?_
    refine run_region (q_assign .n (.c rfl) rfl <| Lex.nil) ?_
    refine run_block ?_
    refine run_LOOP (m_laws_eqInt64S_b1 a b) _ _ _ rfl (fun (x1 : Int) => 0 ≤ x1 ∧ x1 ≤ (a.length : Int)) (fun x1 => 0 ≤ x1 ∧ x1 ≤ (a.length : Int) ∧ (a.length : Int) ≤ x1) (fun x1 => ((a.length : Int) - x1 : Int).toNat) (fun x1 => ⟨[(0, some (true, .sl 1 (a.map (V.int .i64)))), (1, some (true, .sl 1 (b.map (V.int .i64)))), (5, some (true, .int .i64 x1))], []⟩) (fun x1 => ⟨[], []⟩) ⟨by omega, by omega⟩ (by omega) (sub_of [] ⟨rfl, rfl, rfl, trivial⟩ trivial rfl) ?_ ?_
    · intro x1 i8
      obtain ⟨e9, e10, e11⟩ := i8
      try dsimp only at *
      refine run_seq ?_
      refine run_region (q_assign .n (.c rfl) rfl <| Lex.nil) ?_
      exact run_ret [] (.cons (.t rfl rfl) .nil) rfl trivial rfl
    · intro rec1 k1 hk4 x1 i5
      obtain ⟨e12, e13⟩ := i5
      try dsimp only at *
      refine run_seq ?_
      refine run_seq ?_
      refine run_region (q_move .n (.t rfl) rfl <| q_move .n (.t rfl) rfl <| q_len .n (.t rfl) rfl len_map ss_25 rfl <| q_int .n (.t rfl) (.t rfl) rfl rfl <| Lex.nil) ?_
      refine run_cond (.t rfl) rfl (fun h6 => ?_) (fun h6 => ?_)
      · try simp only [Bool.and_eq_true, Bool.or_eq_true, Bool.not_eq_true', Bool.and_eq_false_iff, Bool.or_eq_false_iff, Bool.not_eq_false', decide_eq_true_eq, decide_eq_false_iff_not, beq_iff_eq, bne_iff_ne, beq_eq_false_iff_ne, bne_eq_false_iff_eq, Bool.true_and, ne_eq, Decidable.not_not, Int.not_lt, Int.not_le, Nat.not_lt, Nat.not_le, strB_nil, strB_nil', strB_nnil, strB_nnil'] at h6
        refine run_skip ?_
        refine run_seq ?_
        refine run_block ?_
        refine run_seq ?_
        refine run_draw fmo (q_move .n (.t rfl) rfl <| q_move .n (.t rfl) rfl <| q_idx_rm .n (.t rfl) (.t rfl) sl_25 (fun _ => by omega) rfl <| q_ld1_ro .n (.t rfl) rfl ic_2 rfl <| q_move .n (.t rfl) rfl <| q_move .n (.t rfl) rfl <| q_idx_rm .n (.t rfl) (.t rfl) sl_25 (fun _ => by omega) rfl <| q_ld1_ro .n (.t rfl) rfl ic_2 rfl <| q_int .n (.t rfl) (.t rfl) rfl rfl <| Lex.nil) (by kernel_rfl) ?_
        refine run_cond (.t rfl) rfl (fun h7 => ?_) (fun h7 => ?_)
        · try simp only [Bool.and_eq_true, Bool.or_eq_true, Bool.not_eq_true', Bool.and_eq_false_iff, Bool.or_eq_false_iff, Bool.not_eq_false', decide_eq_true_eq, decide_eq_false_iff_not, beq_iff_eq, bne_iff_ne, beq_eq_false_iff_ne, bne_eq_false_iff_eq, Bool.true_and, ne_eq, Decidable.not_not, Int.not_lt, Int.not_le, Nat.not_lt, Nat.not_le, strB_nil, strB_nil', strB_nnil, strB_nnil'] at h7
          refine run_seq ?_
          refine run_region (q_assign .n (.c rfl) rfl <| Lex.nil) ?_
          exact run_ret [] (.cons (.t rfl rfl) .nil) rfl trivial rfl
        · try simp only [Bool.and_eq_true, Bool.or_eq_true, Bool.not_eq_true', Bool.and_eq_false_iff, Bool.or_eq_false_iff, Bool.not_eq_false', decide_eq_true_eq, decide_eq_false_iff_not, beq_iff_eq, bne_iff_ne, beq_eq_false_iff_ne, bne_eq_false_iff_eq, Bool.true_and, ne_eq, Decidable.not_not, Int.not_lt, Int.not_le, Nat.not_lt, Nat.not_le, strB_nil, strB_nil', strB_nnil, strB_nnil'] at h7
          refine run_skip ?_
          refine run_endB ?_
          refine run_region (q_move .n (.t rfl) rfl <| q_add .n (.t rfl) (.c rfl) (fun _ => by omega) rfl <| q_assign .n (.t rfl) rfl <| Lex.nil) ?_
          exact run_again (x1 + 1) ⟨by omega, by omega⟩ (by omega) (sub_of [] ⟨rfl, rfl, rfl, trivial⟩ trivial rfl)
      · try simp only [Bool.and_eq_true, Bool.or_eq_true, Bool.not_eq_true', Bool.and_eq_false_iff, Bool.or_eq_false_iff, Bool.not_eq_false', decide_eq_true_eq, decide_eq_false_iff_not, beq_iff_eq, bne_iff_ne, beq_eq_false_iff_ne, bne_eq_false_iff_eq, Bool.true_and, ne_eq, Decidable.not_not, Int.not_lt, Int.not_le, Nat.not_lt, Nat.not_le, strB_nil, strB_nil', strB_nnil, strB_nnil'] at h6
        refine run_exit rfl ?_
        exact run_cont hk4 x1 ⟨by omega, by omega, by omega⟩ (sub_of [] trivial trivial rfl)


end Go.Proofs.Ytibbfdojcdkopaa
