/-
  THE WALKS: each Go function computes its model. Conditions: as each theorem states them (hp1, hp2 ..).
-/
import Derived.Test.YtchjibndocnnhaaExactMostPermitsWalks2
set_option linter.unusedVariables false
set_option linter.unusedSimpArgs false
set_option linter.unusedSectionVars false
set_option linter.unnecessarySimpa false
namespace Go.Proofs.Ytchjibndocnnhaa
open Go Go.RowKit Go.Proofs Go.Proofs.Ytchjibndocnnhaa.E
/-! ### laws_FnExactMostPermits -/
set_option maxHeartbeats 4000000 in
theorem c_laws_FnExactMostPermits (aM : gMine) (aList : List gPermit) (aBudget : Int) (hp1 : gMine.ok aM) (hp2 : aList.length ≤ 9223372036854775807 ∧ ∀ y ∈ aList, gPermit.ok y) (hp3 : -9223372036854775808 ≤ aBudget ∧ aBudget ≤ 9223372036854775807) : Con Try.prog 5 [.st [.int .i64 aM.Junctions, .sl 7 (aM.Airways.map gAirway.v)], .sl 5 (aList.map gPermit.v), .int .i64 aBudget] [] (.bool (m_laws_FnExactMostPermits aM aList aBudget)) ([]) := by
  refine con_intro (out := fun r : Bool => ((.bool r : V), ([] : List (Nat × Option O)))) (r := (m_laws_FnExactMostPermits aM aList aBudget)) Try.func5 rfl Try.ntmps5 rfl ?_
  refine run_factS (t := 0) 1 rfl rfl fun hl => ?_
  have l1 := hl; clear hl; simp only [List.length_map] at l1
  refine run_fact (t := 1) rfl fun hl => ?_
  have l2 := hl; clear hl; simp only [List.length_map] at l2
  refine run_seq ?_
  refine run_region (q_box (l := 200) .n rfl (.t rfl) rfl rfl rfl rfl <|
      q_assign .n (.c rfl) rfl <|
      Lex.nil) ?_
  refine run_seq ?_
  refine run_region (q_assign .n (.c rfl) rfl <|
      Lex.nil) ?_
  refine run_seq ?_
  refine run_region (q_ldN_ow .n (.t rfl) rfl (.inr rfl) ag_24 (fun _ => rfl) rfl rfl <|
      q_move .n (.t rfl) rfl <|
      q_call0 (full := false) .n .f en_7 (.cons (.t rfl) (.cons (.t rfl) .nil)) (.cons (.sts rfl) (.cons (.b (.a (.same rfl))) .nil)) (fun hg => c_laws_szMine aM 1048576) rfl (fun h => Bool.noConfusion h) rfl <|
      q_assign .n (.t rfl) rfl <|
      Lex.nil) ?_
  refine run_seq ?_
  refine run_seq ?_
  refine run_region (q_move .n (.t rfl) rfl <|
      q_int .n (.t rfl) (.c rfl) rfl rfl <|
      Lex.nil) ?_
  refine run_cond (.t rfl) rfl (fun h3 => ?_) (fun h3 => ?_)
  · try simp only [Bool.and_eq_true, Bool.or_eq_true, Bool.not_eq_true', Bool.and_eq_false_iff, Bool.or_eq_false_iff, Bool.not_eq_false', decide_eq_true_eq, decide_eq_false_iff_not, beq_iff_eq, bne_iff_ne, beq_eq_false_iff_ne, bne_eq_false_iff_eq, Bool.true_and, ne_eq, Decidable.not_not, Int.not_lt, Int.not_le, Nat.not_lt, Nat.not_le, strB_nil, strB_nil', strB_nnil, strB_nnil'] at h3
    try have hf0h3 := szMine_impA (by assumption) (by omega) (by omega) h3
    try have hf1h3 := szMine_impA (by assumption) (by omega) (by omega) h3.1
    try have hf2h3 := szMine_impA (by assumption) (by omega) (by omega) h3.2
    try have hf3h3 := szMine_impA (by assumption) (by omega) (by omega) h3.1.1
    try have hf4h3 := szMine_impA (by assumption) (by omega) (by omega) h3.1.2
    try have hf5h3 := szMine_impA (by assumption) (by omega) (by omega) h3.2.1
    try have hf6h3 := szMine_impA (by assumption) (by omega) (by omega) h3.2.2
    try have hf7h3 := szMine_impB (by assumption) (by omega) (by omega) h3
    try have hf8h3 := szMine_impB (by assumption) (by omega) (by omega) h3.1
    try have hf9h3 := szMine_impB (by assumption) (by omega) (by omega) h3.2
    try have hf10h3 := szMine_impB (by assumption) (by omega) (by omega) h3.1.1
    try have hf11h3 := szMine_impB (by assumption) (by omega) (by omega) h3.1.2
    try have hf12h3 := szMine_impB (by assumption) (by omega) (by omega) h3.2.1
    try have hf13h3 := szMine_impB (by assumption) (by omega) (by omega) h3.2.2
    refine run_seq ?_
    refine run_region (q_assign .n (.c rfl) rfl <|
        Lex.nil) ?_
    exact run_ret [] (.cons (.t rfl rfl) .nil) rfl trivial rfl
  · try simp only [Bool.and_eq_true, Bool.or_eq_true, Bool.not_eq_true', Bool.and_eq_false_iff, Bool.or_eq_false_iff, Bool.not_eq_false', decide_eq_true_eq, decide_eq_false_iff_not, beq_iff_eq, bne_iff_ne, beq_eq_false_iff_ne, bne_eq_false_iff_eq, Bool.true_and, ne_eq, Decidable.not_not, Int.not_lt, Int.not_le, Nat.not_lt, Nat.not_le, strB_nil, strB_nil', strB_nnil, strB_nnil'] at h3
    try have hf0h3 := szMine_impA (by assumption) (by omega) (by omega) h3
    try have hf1h3 := szMine_impA (by assumption) (by omega) (by omega) h3.1
    try have hf2h3 := szMine_impA (by assumption) (by omega) (by omega) h3.2
    try have hf3h3 := szMine_impA (by assumption) (by omega) (by omega) h3.1.1
    try have hf4h3 := szMine_impA (by assumption) (by omega) (by omega) h3.1.2
    try have hf5h3 := szMine_impA (by assumption) (by omega) (by omega) h3.2.1
    try have hf6h3 := szMine_impA (by assumption) (by omega) (by omega) h3.2.2
    try have hf7h3 := szMine_impB (by assumption) (by omega) (by omega) h3
    try have hf8h3 := szMine_impB (by assumption) (by omega) (by omega) h3.1
    try have hf9h3 := szMine_impB (by assumption) (by omega) (by omega) h3.2
    try have hf10h3 := szMine_impB (by assumption) (by omega) (by omega) h3.1.1
    try have hf11h3 := szMine_impB (by assumption) (by omega) (by omega) h3.1.2
    try have hf12h3 := szMine_impB (by assumption) (by omega) (by omega) h3.2.1
    try have hf13h3 := szMine_impB (by assumption) (by omega) (by omega) h3.2.2
    refine run_skip ?_
    refine run_seq ?_
    refine run_region (q_move .n (.t rfl) rfl <|
        q_move .n (.t rfl) rfl <|
        q_call0 (full := false) .n .f en_23 (.cons (.t rfl) (.cons (.t rfl) .nil)) (.cons (.b (.a (.same rfl))) (.cons (.b (.a (.same rfl))) .nil)) (fun hg => c_laws_szPermitS aList (m_laws_szMine aM 1048576)) rfl (fun h => Bool.noConfusion h) rfl <|
        q_assign .n (.t rfl) rfl <|
        Lex.nil) ?_
    refine run_seq ?_
    refine run_seq ?_
    refine run_region (q_move .n (.t rfl) rfl <|
        q_int .n (.t rfl) (.c rfl) rfl rfl <|
        Lex.nil) ?_
    refine run_cond (.t rfl) rfl (fun h4 => ?_) (fun h4 => ?_)
    · try simp only [Bool.and_eq_true, Bool.or_eq_true, Bool.not_eq_true', Bool.and_eq_false_iff, Bool.or_eq_false_iff, Bool.not_eq_false', decide_eq_true_eq, decide_eq_false_iff_not, beq_iff_eq, bne_iff_ne, beq_eq_false_iff_ne, bne_eq_false_iff_eq, Bool.true_and, ne_eq, Decidable.not_not, Int.not_lt, Int.not_le, Nat.not_lt, Nat.not_le, strB_nil, strB_nil', strB_nnil, strB_nnil'] at h4
      try have hf0h4 := szPermitS_impA (by assumption) (by omega) (by omega) h4
      try have hf1h4 := szPermitS_impA (by assumption) (by omega) (by omega) h4.1
      try have hf2h4 := szPermitS_impA (by assumption) (by omega) (by omega) h4.2
      try have hf3h4 := szPermitS_impA (by assumption) (by omega) (by omega) h4.1.1
      try have hf4h4 := szPermitS_impA (by assumption) (by omega) (by omega) h4.1.2
      try have hf5h4 := szPermitS_impA (by assumption) (by omega) (by omega) h4.2.1
      try have hf6h4 := szPermitS_impA (by assumption) (by omega) (by omega) h4.2.2
      try have hf7h4 := szPermitS_impB (by assumption) (by omega) (by omega) h4
      try have hf8h4 := szPermitS_impB (by assumption) (by omega) (by omega) h4.1
      try have hf9h4 := szPermitS_impB (by assumption) (by omega) (by omega) h4.2
      try have hf10h4 := szPermitS_impB (by assumption) (by omega) (by omega) h4.1.1
      try have hf11h4 := szPermitS_impB (by assumption) (by omega) (by omega) h4.1.2
      try have hf12h4 := szPermitS_impB (by assumption) (by omega) (by omega) h4.2.1
      try have hf13h4 := szPermitS_impB (by assumption) (by omega) (by omega) h4.2.2
      refine run_seq ?_
      refine run_region (q_assign .n (.c rfl) rfl <|
          Lex.nil) ?_
      exact run_ret [] (.cons (.t rfl rfl) .nil) rfl trivial rfl
    · try simp only [Bool.and_eq_true, Bool.or_eq_true, Bool.not_eq_true', Bool.and_eq_false_iff, Bool.or_eq_false_iff, Bool.not_eq_false', decide_eq_true_eq, decide_eq_false_iff_not, beq_iff_eq, bne_iff_ne, beq_eq_false_iff_ne, bne_eq_false_iff_eq, Bool.true_and, ne_eq, Decidable.not_not, Int.not_lt, Int.not_le, Nat.not_lt, Nat.not_le, strB_nil, strB_nil', strB_nnil, strB_nnil'] at h4
      try have hf0h4 := szPermitS_impA (by assumption) (by omega) (by omega) h4
      try have hf1h4 := szPermitS_impA (by assumption) (by omega) (by omega) h4.1
      try have hf2h4 := szPermitS_impA (by assumption) (by omega) (by omega) h4.2
      try have hf3h4 := szPermitS_impA (by assumption) (by omega) (by omega) h4.1.1
      try have hf4h4 := szPermitS_impA (by assumption) (by omega) (by omega) h4.1.2
      try have hf5h4 := szPermitS_impA (by assumption) (by omega) (by omega) h4.2.1
      try have hf6h4 := szPermitS_impA (by assumption) (by omega) (by omega) h4.2.2
      try have hf7h4 := szPermitS_impB (by assumption) (by omega) (by omega) h4
      try have hf8h4 := szPermitS_impB (by assumption) (by omega) (by omega) h4.1
      try have hf9h4 := szPermitS_impB (by assumption) (by omega) (by omega) h4.2
      try have hf10h4 := szPermitS_impB (by assumption) (by omega) (by omega) h4.1.1
      try have hf11h4 := szPermitS_impB (by assumption) (by omega) (by omega) h4.1.2
      try have hf12h4 := szPermitS_impB (by assumption) (by omega) (by omega) h4.2.1
      try have hf13h4 := szPermitS_impB (by assumption) (by omega) (by omega) h4.2.2
      refine run_skip ?_
      refine run_seq ?_
      refine run_region (q_ldN_ow .n (.t rfl) rfl (.inr rfl) ag_24 (fun _ => rfl) rfl rfl <|
          q_callM (full := false) [] [(100, 201)] .n rfl .f en_10 (.cons (.t rfl) .nil) (.cons (.sts rfl) .nil) (c_laws_toMine aM (by omega)) trivial rfl rfl (fun h => Bool.noConfusion h) (fun h => Bool.noConfusion h) rfl <|
          q_move .n (.t rfl) rfl <|
          q_callM (full := false) [] [(100, 202)] .n rfl .f en_25 (.cons (.t rfl) .nil) (.cons (.b (.a (.same rfl))) .nil) (c_laws_toPermitS aList (by omega)) trivial rfl rfl (fun h => Bool.noConfusion h) (fun h => Bool.noConfusion h) rfl <|
          q_move .n (.t rfl) rfl <|
          q_callM (full := true) [] [(100, 203)] .n rfl .f en_24 (.cons (.t rfl) (.cons (.t rfl) (.cons (.t rfl) .nil))) (.cons (.st (.cons (.a (.same rfl)) (.cons (.a (.own rfl rfl rfl (take_all (by simp only [len_map, put_len, markAirwayS_len, markMine_len, markInt64S_len, markPermitS_len] <;> rfl)) (by simp only [len_map, put_len, markAirwayS_len, markMine_len, markInt64S_len, markPermitS_len] <;> rfl))) .nil))) (.cons (.b (.a (.own rfl rfl rfl (take_all (by simp only [len_map, put_len, markAirwayS_len, markMine_len, markInt64S_len, markPermitS_len] <;> rfl)) (by simp only [len_map, put_len, markAirwayS_len, markMine_len, markInt64S_len, markPermitS_len] <;> rfl)))) (.cons (.b (.a (.same rfl))) .nil))) (c_spec_MostPermits (m_laws_toMine aM) (m_laws_toPermitS aList) aBudget) trivial rfl rfl (fun _ => rfl) (fun _ => (hr_row (fun _ => rfl) hr_nil)) rfl <|
          q_move .n (.t rfl) rfl <|
          q_ext .n (.t rfl) rfl rfl rfl <|
          q_ext .n (.t rfl) rfl rfl rfl <|
          q_assign .n (.t rfl) rfl <|
          q_assign .n (.t rfl) rfl <|
          Lex.nil) ?_
      refine run_seq ?_
      refine run_region (q_ldN_ow .n (.t rfl) rfl (.inr rfl) ag_24 (fun _ => rfl) rfl rfl <|
          q_callM (full := false) [] [(100, 204)] .n rfl .f en_10 (.cons (.t rfl) .nil) (.cons (.sts rfl) .nil) (c_laws_toMine aM (by omega)) trivial rfl rfl (fun h => Bool.noConfusion h) (fun h => Bool.noConfusion h) rfl <|
          q_alloc (l := 205) .n rfl zv_33 rfl rfl <|
          q_st_boxm [.int .i64 (m_laws_toMine aM).Junctions, .os 204 (m_laws_toMine aM).Airways.length] .n rfl (.t rfl) (.t rfl) rfl ts_33 rfl rfl <|
          Lex.nil) ?_
      refine run_seq ?_
      refine run_region (q_move .n (.t rfl) rfl <|
          q_callM (full := false) [] [(100, 206)] .n rfl .f en_25 (.cons (.t rfl) .nil) (.cons (.b (.a (.same rfl))) .nil) (c_laws_toPermitS aList (by omega)) trivial rfl rfl (fun h => Bool.noConfusion h) (fun h => Bool.noConfusion h) rfl <|
          q_assign .n (.t rfl) rfl <|
          Lex.nil) ?_
      refine run_seq ?_
      refine run_region (q_ldN_ow .n (.t rfl) rfl (.inr rfl) ag_33 (fun _ => rfl) rfl rfl <|
          q_move .n (.t rfl) rfl <|
          q_move .n (.t rfl) rfl <|
          q_callM (full := true) [] [(100, 207)] .n rfl .f en_26 (.cons (.t rfl) (.cons (.t rfl) (.cons (.t rfl) .nil))) (.cons (.st (.cons (.a (.same rfl)) (.cons (.a (.own rfl rfl rfl (take_all (by simp only [len_map, put_len, markAirwayS_len, markMine_len, markInt64S_len, markPermitS_len] <;> rfl)) (by simp only [len_map, put_len, markAirwayS_len, markMine_len, markInt64S_len, markPermitS_len] <;> rfl))) .nil))) (.cons (.b (.a (.own rfl rfl rfl (take_all (by simp only [len_map, put_len, markAirwayS_len, markMine_len, markInt64S_len, markPermitS_len] <;> rfl)) (by simp only [len_map, put_len, markAirwayS_len, markMine_len, markInt64S_len, markPermitS_len] <;> rfl)))) (.cons (.b (.a (.same rfl))) .nil))) (c_impl_MostPermits (m_laws_toMine aM) (m_laws_toPermitS aList) aBudget) trivial rfl rfl (fun _ => rfl) (fun _ => (hr_row (fun _ => rfl) hr_nil)) rfl <|
          q_move .n (.t rfl) rfl <|
          q_ext .n (.t rfl) rfl rfl rfl <|
          q_ext .n (.t rfl) rfl rfl rfl <|
          q_assign .n (.t rfl) rfl <|
          q_assign .n (.t rfl) rfl <|
          Lex.nil) ?_
      refine run_seq ?_
      refine run_seq ?_
      refine run_region (q_move .n (.t rfl) rfl <|
          q_move .n (.t rfl) rfl <|
          q_call0 (full := true) .n .f en_14 (.cons (.t rfl) (.cons (.t rfl) .nil)) (.cons (.b (.a (.own rfl rfl rfl (take_all (by simp only [len_map, put_len, markAirwayS_len, markMine_len, markInt64S_len, markPermitS_len] <;> rfl)) (by simp only [len_map, put_len, markAirwayS_len, markMine_len, markInt64S_len, markPermitS_len] <;> rfl)))) (.cons (.b (.a (.own rfl rfl rfl (take_all (by simp only [len_map, put_len, markAirwayS_len, markMine_len, markInt64S_len, markPermitS_len] <;> rfl)) (by simp only [len_map, put_len, markAirwayS_len, markMine_len, markInt64S_len, markPermitS_len] <;> rfl)))) .nil)) (fun hg => c_laws_eqInt64S (m_impl_MostPermits (m_laws_toMine aM) (m_laws_toPermitS aList) aBudget).1 (m_spec_MostPermits (m_laws_toMine aM) (m_laws_toPermitS aList) aBudget).1) rfl (fun _ => rfl) rfl <|
          q_not .n (.t rfl) rfl <|
          q_move .n (.t rfl) rfl <|
          q_move (.f rfl rfl) (.t rfl) rfl <|
          q_move (.f rfl rfl) (.t rfl) rfl <|
          q_int (.f rfl rfl) (.u rfl id) (.u rfl id) rfl rfl <|
          q_or .n (.t rfl) (.u rfl id) rfl <|
          Lex.nil) ?_
      refine run_cond (.t rfl) rfl (fun h5 => ?_) (fun h5 => ?_)
      · try simp only [Bool.and_eq_true, Bool.or_eq_true, Bool.not_eq_true', Bool.and_eq_false_iff, Bool.or_eq_false_iff, Bool.not_eq_false', decide_eq_true_eq, decide_eq_false_iff_not, beq_iff_eq, bne_iff_ne, beq_eq_false_iff_ne, bne_eq_false_iff_eq, Bool.true_and, ne_eq, Decidable.not_not, Int.not_lt, Int.not_le, Nat.not_lt, Nat.not_le, strB_nil, strB_nil', strB_nnil, strB_nnil'] at h5
        refine run_seq ?_
        refine run_region (q_assign .n (.c rfl) rfl <|
            Lex.nil) ?_
        exact run_ret [] (.cons (.t rfl rfl) .nil) rfl trivial rfl
      · try simp only [Bool.and_eq_true, Bool.or_eq_true, Bool.not_eq_true', Bool.and_eq_false_iff, Bool.or_eq_false_iff, Bool.not_eq_false', decide_eq_true_eq, decide_eq_false_iff_not, beq_iff_eq, bne_iff_ne, beq_eq_false_iff_ne, bne_eq_false_iff_eq, Bool.true_and, ne_eq, Decidable.not_not, Int.not_lt, Int.not_le, Nat.not_lt, Nat.not_le, strB_nil, strB_nil', strB_nnil, strB_nnil'] at h5
        refine run_skip ?_
        refine run_seq ?_
        refine run_seq ?_
        refine run_draw fmo (q_ldN_ow .n (.t rfl) rfl (.inr rfl) ag_33 (fun _ => rfl) rfl rfl <|
            q_ldN_ow .n (.t rfl) rfl (.inr rfl) ag_24 (fun _ => rfl) rfl rfl <|
            q_callM (full := false) [] [(100, 208)] .n rfl .f en_10 (.cons (.t rfl) .nil) (.cons (.sts rfl) .nil) (c_laws_toMine aM (by omega)) trivial rfl rfl (fun h => Bool.noConfusion h) (fun h => Bool.noConfusion h) rfl <|
            q_call0 (full := true) .n .f en_15 (.cons (.t rfl) (.cons (.t rfl) .nil)) (.cons (.st (.cons (.a (.same rfl)) (.cons (.a (.own rfl rfl rfl (take_all (by simp only [len_map, put_len, markAirwayS_len, markMine_len, markInt64S_len, markPermitS_len] <;> rfl)) (by simp only [len_map, put_len, markAirwayS_len, markMine_len, markInt64S_len, markPermitS_len] <;> rfl))) .nil))) (.cons (.st (.cons (.a (.same rfl)) (.cons (.a (.own rfl rfl rfl (take_all (by simp only [len_map, put_len, markAirwayS_len, markMine_len, markInt64S_len, markPermitS_len] <;> rfl)) (by simp only [len_map, put_len, markAirwayS_len, markMine_len, markInt64S_len, markPermitS_len] <;> rfl))) .nil))) .nil)) (fun hg => c_laws_eqMine (m_laws_toMine aM) (m_laws_toMine aM)) rfl (fun _ => rfl) rfl <|
            q_not .n (.t rfl) rfl <|
            Lex.nil) (by kernel_rfl) ?_
        refine run_cond (.t rfl) rfl (fun h6 => ?_) (fun h6 => ?_)
        · try simp only [Bool.and_eq_true, Bool.or_eq_true, Bool.not_eq_true', Bool.and_eq_false_iff, Bool.or_eq_false_iff, Bool.not_eq_false', decide_eq_true_eq, decide_eq_false_iff_not, beq_iff_eq, bne_iff_ne, beq_eq_false_iff_ne, bne_eq_false_iff_eq, Bool.true_and, ne_eq, Decidable.not_not, Int.not_lt, Int.not_le, Nat.not_lt, Nat.not_le, strB_nil, strB_nil', strB_nnil, strB_nnil'] at h6
          refine run_seq ?_
          refine run_region (q_assign .n (.c rfl) rfl <|
              Lex.nil) ?_
          exact run_ret [] (.cons (.t rfl rfl) .nil) rfl trivial rfl
        · try simp only [Bool.and_eq_true, Bool.or_eq_true, Bool.not_eq_true', Bool.and_eq_false_iff, Bool.or_eq_false_iff, Bool.not_eq_false', decide_eq_true_eq, decide_eq_false_iff_not, beq_iff_eq, bne_iff_ne, beq_eq_false_iff_ne, bne_eq_false_iff_eq, Bool.true_and, ne_eq, Decidable.not_not, Int.not_lt, Int.not_le, Nat.not_lt, Nat.not_le, strB_nil, strB_nil', strB_nnil, strB_nnil'] at h6
          refine run_skip ?_
          refine run_seq ?_
          refine run_seq ?_
          refine run_region (q_move .n (.t rfl) rfl <|
              q_move .n (.t rfl) rfl <|
              q_callM (full := false) [] [(100, 209)] .n rfl .f en_25 (.cons (.t rfl) .nil) (.cons (.b (.a (.same rfl))) .nil) (c_laws_toPermitS aList (by omega)) trivial rfl rfl (fun h => Bool.noConfusion h) (fun h => Bool.noConfusion h) rfl <|
              q_call0 (full := true) .n .f en_27 (.cons (.t rfl) (.cons (.t rfl) .nil)) (.cons (.b (.a (.own rfl rfl rfl (take_all (by simp only [len_map, put_len, markAirwayS_len, markMine_len, markInt64S_len, markPermitS_len] <;> rfl)) (by simp only [len_map, put_len, markAirwayS_len, markMine_len, markInt64S_len, markPermitS_len] <;> rfl)))) (.cons (.b (.a (.own rfl rfl rfl (take_all (by simp only [len_map, put_len, markAirwayS_len, markMine_len, markInt64S_len, markPermitS_len] <;> rfl)) (by simp only [len_map, put_len, markAirwayS_len, markMine_len, markInt64S_len, markPermitS_len] <;> rfl)))) .nil)) (fun hg => c_laws_eqPermitS (m_laws_toPermitS aList) (m_laws_toPermitS aList)) rfl (fun _ => rfl) rfl <|
              q_not .n (.t rfl) rfl <|
              Lex.nil) ?_
          refine run_cond (.t rfl) rfl (fun h7 => ?_) (fun h7 => ?_)
          · try simp only [Bool.and_eq_true, Bool.or_eq_true, Bool.not_eq_true', Bool.and_eq_false_iff, Bool.or_eq_false_iff, Bool.not_eq_false', decide_eq_true_eq, decide_eq_false_iff_not, beq_iff_eq, bne_iff_ne, beq_eq_false_iff_ne, bne_eq_false_iff_eq, Bool.true_and, ne_eq, Decidable.not_not, Int.not_lt, Int.not_le, Nat.not_lt, Nat.not_le, strB_nil, strB_nil', strB_nnil, strB_nnil'] at h7
            refine run_seq ?_
            refine run_region (q_assign .n (.c rfl) rfl <|
                Lex.nil) ?_
            exact run_ret [] (.cons (.t rfl rfl) .nil) rfl trivial rfl
          · try simp only [Bool.and_eq_true, Bool.or_eq_true, Bool.not_eq_true', Bool.and_eq_false_iff, Bool.or_eq_false_iff, Bool.not_eq_false', decide_eq_true_eq, decide_eq_false_iff_not, beq_iff_eq, bne_iff_ne, beq_eq_false_iff_ne, bne_eq_false_iff_eq, Bool.true_and, ne_eq, Decidable.not_not, Int.not_lt, Int.not_le, Nat.not_lt, Nat.not_le, strB_nil, strB_nil', strB_nnil, strB_nnil'] at h7
            refine run_skip ?_
            refine run_seq ?_
            refine run_region (q_assign .n (.c rfl) rfl <|
                Lex.nil) ?_
            refine run_seq ?_
            refine run_region (q_ldN_ow .n (.t rfl) rfl (.inr rfl) ag_33 (fun _ => rfl) rfl rfl <|
                q_move .n (.t rfl) rfl <|
                q_callM (full := false) [(11, 204)] [] .n rfl .f en_17 (.cons (.t rfl) (.cons (.t rfl) .nil)) (.cons (.st (.cons (.a (.same rfl)) (.cons (.muts rfl) .nil))) (.cons (.b (.a (.same rfl))) .nil)) (c_laws_markMine (m_laws_toMine aM) 1 (by omega)) ⟨rfl, trivial⟩ rfl rfl (fun h => Bool.noConfusion h) (fun h => Bool.noConfusion h) rfl <|
                q_assign .n (.t rfl) rfl <|
                Lex.nil) ?_
            refine run_seq ?_
            refine run_region (q_move .n (.t rfl) rfl <|
                q_move .n (.t rfl) rfl <|
                q_callM (full := false) [(0, 206)] [] .n rfl .f en_28 (.cons (.t rfl) (.cons (.t rfl) .nil)) (.cons (.b (.muts rfl)) (.cons (.b (.a (.same rfl))) .nil)) (c_laws_markPermitS (m_laws_toPermitS aList) (m_laws_markMine (m_laws_toMine aM) 1).1 (by ((repeat (first | omega | refine markAirwayS_le ?_ | refine markMine_le ?_ | refine markInt64S_le ?_ | refine markPermitS_le ?_))))) ⟨rfl, trivial⟩ rfl rfl (fun h => Bool.noConfusion h) (fun h => Bool.noConfusion h) rfl <|
                q_assign .n (.t rfl) rfl <|
                Lex.nil) ?_
            refine run_seq ?_
            refine run_seq ?_
            refine run_region (q_move .n (.t rfl) rfl <|
                q_int .n (.t rfl) (.c rfl) rfl rfl <|
                q_move .n (.t rfl) rfl <|
                q_move (.f rfl rfl) (.t rfl) rfl <|
                q_move (.f rfl rfl) (.t rfl) rfl <|
                q_call0 (full := true) (.f rfl rfl) .f en_14 (.cons (.u rfl id) (.cons (.u rfl id) .nil)) (.cons (.b (.a (.own rfl rfl rfl (take_all (by simp only [len_map, put_len, markAirwayS_len, markMine_len, markInt64S_len, markPermitS_len] <;> rfl)) (by simp only [len_map, put_len, markAirwayS_len, markMine_len, markInt64S_len, markPermitS_len] <;> rfl)))) (.cons (.b (.a (.own rfl rfl rfl (take_all (by simp only [len_map, put_len, markAirwayS_len, markMine_len, markInt64S_len, markPermitS_len] <;> rfl)) (by simp only [len_map, put_len, markAirwayS_len, markMine_len, markInt64S_len, markPermitS_len] <;> rfl)))) .nil)) (fun hg => c_laws_eqInt64S (m_impl_MostPermits (m_laws_toMine aM) (m_laws_toPermitS aList) aBudget).1 (m_spec_MostPermits (m_laws_toMine aM) (m_laws_toPermitS aList) aBudget).1) rfl (fun _ => rfl) rfl <|
                q_not (.f rfl rfl) (.u rfl id) rfl <|
                q_or .n (.t rfl) (.u rfl id) rfl <|
                q_move .n (.t rfl) rfl <|
                q_move (.f rfl rfl) (.t rfl) rfl <|
                q_move (.f rfl rfl) (.t rfl) rfl <|
                q_int (.f rfl rfl) (.u rfl id) (.u rfl id) rfl rfl <|
                q_or .n (.t rfl) (.u rfl id) rfl <|
                Lex.nil) ?_
            refine run_cond (.t rfl) rfl (fun h8 => ?_) (fun h8 => ?_)
            · try simp only [Bool.and_eq_true, Bool.or_eq_true, Bool.not_eq_true', Bool.and_eq_false_iff, Bool.or_eq_false_iff, Bool.not_eq_false', decide_eq_true_eq, decide_eq_false_iff_not, beq_iff_eq, bne_iff_ne, beq_eq_false_iff_ne, bne_eq_false_iff_eq, Bool.true_and, ne_eq, Decidable.not_not, Int.not_lt, Int.not_le, Nat.not_lt, Nat.not_le, strB_nil, strB_nil', strB_nnil, strB_nnil'] at h8
              refine run_seq ?_
              refine run_region (q_assign .n (.c rfl) rfl <|
                  Lex.nil) ?_
              exact run_ret [] (.cons (.t rfl rfl) .nil) rfl trivial rfl
            · try simp only [Bool.and_eq_true, Bool.or_eq_true, Bool.not_eq_true', Bool.and_eq_false_iff, Bool.or_eq_false_iff, Bool.not_eq_false', decide_eq_true_eq, decide_eq_false_iff_not, beq_iff_eq, bne_iff_ne, beq_eq_false_iff_ne, bne_eq_false_iff_eq, Bool.true_and, ne_eq, Decidable.not_not, Int.not_lt, Int.not_le, Nat.not_lt, Nat.not_le, strB_nil, strB_nil', strB_nnil, strB_nnil'] at h8
              refine run_skip ?_
              refine run_seq ?_
              refine run_region (q_assign .n (.c rfl) rfl <|
                  Lex.nil) ?_
              refine run_seq ?_
              refine run_region (q_move .n (.t rfl) rfl <|
                  q_move .n (.t rfl) rfl <|
                  q_callM (full := false) [(0, 207)] [] .n rfl .f en_18 (.cons (.t rfl) (.cons (.t rfl) .nil)) (.cons (.b (.muts rfl)) (.cons (.b (.a (.same rfl))) .nil)) (c_laws_markInt64S (m_impl_MostPermits (m_laws_toMine aM) (m_laws_toPermitS aList) aBudget).1 1) ⟨rfl, trivial⟩ rfl rfl (fun h => Bool.noConfusion h) (fun h => Bool.noConfusion h) rfl <|
                  q_assign .n (.t rfl) rfl <|
                  Lex.nil) ?_
              refine run_seq ?_
              refine run_region (q_assign .n (.c rfl) rfl <|
                  Lex.nil) ?_
              refine run_seq ?_
              refine run_region (q_move .n (.t rfl) rfl <|
                  q_move .n (.t rfl) rfl <|
                  q_call0 (full := true) .n .f en_20 (.cons (.t rfl) (.cons (.t rfl) .nil)) (.cons (.b (.a (.own rfl rfl rfl (take_all (by simp only [len_map, put_len, markAirwayS_len, markMine_len, markInt64S_len, markPermitS_len] <;> rfl)) (by simp only [len_map, put_len, markAirwayS_len, markMine_len, markInt64S_len, markPermitS_len] <;> rfl)))) (.cons (.b (.a (.same rfl))) .nil)) (fun hg => c_laws_heldInt64S (m_laws_markInt64S (m_impl_MostPermits (m_laws_toMine aM) (m_laws_toPermitS aList) aBudget).1 1).2 1) rfl (fun _ => rfl) rfl <|
                  q_assign .n (.t rfl) rfl <|
                  Lex.nil) ?_
              refine run_seq ?_
              refine run_seq ?_
              refine run_region (q_move .n (.t rfl) rfl <|
                  q_int .n (.t rfl) (.c rfl) rfl rfl <|
                  Lex.nil) ?_
              refine run_cond (.t rfl) rfl (fun h9 => ?_) (fun h9 => ?_)
              · try simp only [Bool.and_eq_true, Bool.or_eq_true, Bool.not_eq_true', Bool.and_eq_false_iff, Bool.or_eq_false_iff, Bool.not_eq_false', decide_eq_true_eq, decide_eq_false_iff_not, beq_iff_eq, bne_iff_ne, beq_eq_false_iff_ne, bne_eq_false_iff_eq, Bool.true_and, ne_eq, Decidable.not_not, Int.not_lt, Int.not_le, Nat.not_lt, Nat.not_le, strB_nil, strB_nil', strB_nnil, strB_nnil'] at h9
                refine run_seq ?_
                refine run_region (q_assign .n (.c rfl) rfl <|
                    Lex.nil) ?_
                exact run_ret [] (.cons (.t rfl rfl) .nil) rfl trivial rfl
              · try simp only [Bool.and_eq_true, Bool.or_eq_true, Bool.not_eq_true', Bool.and_eq_false_iff, Bool.or_eq_false_iff, Bool.not_eq_false', decide_eq_true_eq, decide_eq_false_iff_not, beq_iff_eq, bne_iff_ne, beq_eq_false_iff_ne, bne_eq_false_iff_eq, Bool.true_and, ne_eq, Decidable.not_not, Int.not_lt, Int.not_le, Nat.not_lt, Nat.not_le, strB_nil, strB_nil', strB_nnil, strB_nnil'] at h9
                refine run_skip ?_
                refine run_seq ?_
                refine run_seq ?_
                refine run_region (q_move .n (.t rfl) rfl <|
                    q_move .n (.t rfl) rfl <|
                    q_int .n (.t rfl) (.t rfl) rfl rfl <|
                    Lex.nil) ?_
                refine run_cond (.t rfl) rfl (fun h10 => ?_) (fun h10 => ?_)
                · try simp only [Bool.and_eq_true, Bool.or_eq_true, Bool.not_eq_true', Bool.and_eq_false_iff, Bool.or_eq_false_iff, Bool.not_eq_false', decide_eq_true_eq, decide_eq_false_iff_not, beq_iff_eq, bne_iff_ne, beq_eq_false_iff_ne, bne_eq_false_iff_eq, Bool.true_and, ne_eq, Decidable.not_not, Int.not_lt, Int.not_le, Nat.not_lt, Nat.not_le, strB_nil, strB_nil', strB_nnil, strB_nnil'] at h10
                  refine run_seq ?_
                  refine run_region (q_assign .n (.c rfl) rfl <|
                      Lex.nil) ?_
                  exact run_ret [] (.cons (.t rfl rfl) .nil) rfl trivial rfl
                · try simp only [Bool.and_eq_true, Bool.or_eq_true, Bool.not_eq_true', Bool.and_eq_false_iff, Bool.or_eq_false_iff, Bool.not_eq_false', decide_eq_true_eq, decide_eq_false_iff_not, beq_iff_eq, bne_iff_ne, beq_eq_false_iff_ne, bne_eq_false_iff_eq, Bool.true_and, ne_eq, Decidable.not_not, Int.not_lt, Int.not_le, Nat.not_lt, Nat.not_le, strB_nil, strB_nil', strB_nnil, strB_nnil'] at h10
                  refine run_skip ?_
                  refine run_seq ?_
                  refine run_region (q_ldN_ow .n (.t rfl) rfl (.inr rfl) ag_24 (fun _ => rfl) rfl rfl <|
                      q_callM (full := false) [] [(100, 210)] .n rfl .f en_10 (.cons (.t rfl) .nil) (.cons (.sts rfl) .nil) (c_laws_toMine aM (by omega)) trivial rfl rfl (fun h => Bool.noConfusion h) (fun h => Bool.noConfusion h) rfl <|
                      q_move .n (.t rfl) rfl <|
                      q_callM (full := false) [] [(100, 211)] .n rfl .f en_25 (.cons (.t rfl) .nil) (.cons (.b (.a (.same rfl))) .nil) (c_laws_toPermitS aList (by omega)) trivial rfl rfl (fun h => Bool.noConfusion h) (fun h => Bool.noConfusion h) rfl <|
                      q_move .n (.t rfl) rfl <|
                      q_callM (full := true) [] [(100, 212)] .n rfl .f en_26 (.cons (.t rfl) (.cons (.t rfl) (.cons (.t rfl) .nil))) (.cons (.st (.cons (.a (.same rfl)) (.cons (.a (.own rfl rfl rfl (take_all (by simp only [len_map, put_len, markAirwayS_len, markMine_len, markInt64S_len, markPermitS_len] <;> rfl)) (by simp only [len_map, put_len, markAirwayS_len, markMine_len, markInt64S_len, markPermitS_len] <;> rfl))) .nil))) (.cons (.b (.a (.own rfl rfl rfl (take_all (by simp only [len_map, put_len, markAirwayS_len, markMine_len, markInt64S_len, markPermitS_len] <;> rfl)) (by simp only [len_map, put_len, markAirwayS_len, markMine_len, markInt64S_len, markPermitS_len] <;> rfl)))) (.cons (.b (.a (.same rfl))) .nil))) (c_impl_MostPermits (m_laws_toMine aM) (m_laws_toPermitS aList) aBudget) trivial rfl rfl (fun _ => rfl) (fun _ => (hr_row (fun _ => rfl) hr_nil)) rfl <|
                      q_move .n (.t rfl) rfl <|
                      q_ext .n (.t rfl) rfl rfl rfl <|
                      q_ext .n (.t rfl) rfl rfl rfl <|
                      q_assign .n (.t rfl) rfl <|
                      q_assign .n (.t rfl) rfl <|
                      Lex.nil) ?_
                  refine run_seq ?_
                  refine run_seq ?_
                  refine run_region (q_move .n (.t rfl) rfl <|
                      q_move .n (.t rfl) rfl <|
                      q_call0 (full := true) .n .f en_14 (.cons (.t rfl) (.cons (.t rfl) .nil)) (.cons (.b (.a (.own rfl rfl rfl (take_all (by simp only [len_map, put_len, markAirwayS_len, markMine_len, markInt64S_len, markPermitS_len] <;> rfl)) (by simp only [len_map, put_len, markAirwayS_len, markMine_len, markInt64S_len, markPermitS_len] <;> rfl)))) (.cons (.b (.a (.own rfl rfl rfl (take_all (by simp only [len_map, put_len, markAirwayS_len, markMine_len, markInt64S_len, markPermitS_len] <;> rfl)) (by simp only [len_map, put_len, markAirwayS_len, markMine_len, markInt64S_len, markPermitS_len] <;> rfl)))) .nil)) (fun hg => c_laws_eqInt64S (m_impl_MostPermits (m_laws_toMine aM) (m_laws_toPermitS aList) aBudget).1 (m_spec_MostPermits (m_laws_toMine aM) (m_laws_toPermitS aList) aBudget).1) rfl (fun _ => rfl) rfl <|
                      q_not .n (.t rfl) rfl <|
                      q_move .n (.t rfl) rfl <|
                      q_move (.f rfl rfl) (.t rfl) rfl <|
                      q_move (.f rfl rfl) (.t rfl) rfl <|
                      q_int (.f rfl rfl) (.u rfl id) (.u rfl id) rfl rfl <|
                      q_or .n (.t rfl) (.u rfl id) rfl <|
                      Lex.nil) ?_
                  refine run_cond (.t rfl) rfl (fun h11 => ?_) (fun h11 => ?_)
                  · try simp only [Bool.and_eq_true, Bool.or_eq_true, Bool.not_eq_true', Bool.and_eq_false_iff, Bool.or_eq_false_iff, Bool.not_eq_false', decide_eq_true_eq, decide_eq_false_iff_not, beq_iff_eq, bne_iff_ne, beq_eq_false_iff_ne, bne_eq_false_iff_eq, Bool.true_and, ne_eq, Decidable.not_not, Int.not_lt, Int.not_le, Nat.not_lt, Nat.not_le, strB_nil, strB_nil', strB_nnil, strB_nnil'] at h11
                    refine run_seq ?_
                    refine run_region (q_assign .n (.c rfl) rfl <|
                        Lex.nil) ?_
                    exact run_ret [] (.cons (.t rfl rfl) .nil) rfl trivial rfl
                  · try simp only [Bool.and_eq_true, Bool.or_eq_true, Bool.not_eq_true', Bool.and_eq_false_iff, Bool.or_eq_false_iff, Bool.not_eq_false', decide_eq_true_eq, decide_eq_false_iff_not, beq_iff_eq, bne_iff_ne, beq_eq_false_iff_ne, bne_eq_false_iff_eq, Bool.true_and, ne_eq, Decidable.not_not, Int.not_lt, Int.not_le, Nat.not_lt, Nat.not_le, strB_nil, strB_nil', strB_nnil, strB_nnil'] at h11
                    refine run_skip ?_
                    refine run_seq ?_
                    refine run_region (q_assign .n (.c rfl) rfl <|
                        Lex.nil) ?_
                    refine run_seq ?_
                    refine run_region (q_move .n (.t rfl) rfl <|
                        q_move .n (.t rfl) rfl <|
                        q_call0 (full := true) .n .f en_20 (.cons (.t rfl) (.cons (.t rfl) .nil)) (.cons (.b (.a (.own rfl rfl rfl (take_all (by simp only [len_map, put_len, markAirwayS_len, markMine_len, markInt64S_len, markPermitS_len] <;> rfl)) (by simp only [len_map, put_len, markAirwayS_len, markMine_len, markInt64S_len, markPermitS_len] <;> rfl)))) (.cons (.b (.a (.same rfl))) .nil)) (fun hg => c_laws_heldInt64S (m_laws_markInt64S (m_impl_MostPermits (m_laws_toMine aM) (m_laws_toPermitS aList) aBudget).1 1).2 1) rfl (fun _ => rfl) rfl <|
                        q_assign .n (.t rfl) rfl <|
                        Lex.nil) ?_
                    refine run_seq ?_
                    refine run_seq ?_
                    refine run_region (q_move .n (.t rfl) rfl <|
                        q_int .n (.t rfl) (.c rfl) rfl rfl <|
                        Lex.nil) ?_
                    refine run_cond (.t rfl) rfl (fun h12 => ?_) (fun h12 => ?_)
                    · try simp only [Bool.and_eq_true, Bool.or_eq_true, Bool.not_eq_true', Bool.and_eq_false_iff, Bool.or_eq_false_iff, Bool.not_eq_false', decide_eq_true_eq, decide_eq_false_iff_not, beq_iff_eq, bne_iff_ne, beq_eq_false_iff_ne, bne_eq_false_iff_eq, Bool.true_and, ne_eq, Decidable.not_not, Int.not_lt, Int.not_le, Nat.not_lt, Nat.not_le, strB_nil, strB_nil', strB_nnil, strB_nnil'] at h12
                      refine run_seq ?_
                      refine run_region (q_assign .n (.c rfl) rfl <|
                          Lex.nil) ?_
                      exact run_ret [] (.cons (.t rfl rfl) .nil) rfl trivial rfl
                    · try simp only [Bool.and_eq_true, Bool.or_eq_true, Bool.not_eq_true', Bool.and_eq_false_iff, Bool.or_eq_false_iff, Bool.not_eq_false', decide_eq_true_eq, decide_eq_false_iff_not, beq_iff_eq, bne_iff_ne, beq_eq_false_iff_ne, bne_eq_false_iff_eq, Bool.true_and, ne_eq, Decidable.not_not, Int.not_lt, Int.not_le, Nat.not_lt, Nat.not_le, strB_nil, strB_nil', strB_nnil, strB_nnil'] at h12
                      refine run_skip ?_
                      refine run_seq ?_
                      refine run_seq ?_
                      refine run_region (q_move .n (.t rfl) rfl <|
                          q_move .n (.t rfl) rfl <|
                          q_int .n (.t rfl) (.t rfl) rfl rfl <|
                          Lex.nil) ?_
                      refine run_cond (.t rfl) rfl (fun h13 => ?_) (fun h13 => ?_)
                      · try simp only [Bool.and_eq_true, Bool.or_eq_true, Bool.not_eq_true', Bool.and_eq_false_iff, Bool.or_eq_false_iff, Bool.not_eq_false', decide_eq_true_eq, decide_eq_false_iff_not, beq_iff_eq, bne_iff_ne, beq_eq_false_iff_ne, bne_eq_false_iff_eq, Bool.true_and, ne_eq, Decidable.not_not, Int.not_lt, Int.not_le, Nat.not_lt, Nat.not_le, strB_nil, strB_nil', strB_nnil, strB_nnil'] at h13
                        refine run_seq ?_
                        refine run_region (q_assign .n (.c rfl) rfl <|
                            Lex.nil) ?_
                        exact run_ret [] (.cons (.t rfl rfl) .nil) rfl trivial rfl
                      · try simp only [Bool.and_eq_true, Bool.or_eq_true, Bool.not_eq_true', Bool.and_eq_false_iff, Bool.or_eq_false_iff, Bool.not_eq_false', decide_eq_true_eq, decide_eq_false_iff_not, beq_iff_eq, bne_iff_ne, beq_eq_false_iff_ne, bne_eq_false_iff_eq, Bool.true_and, ne_eq, Decidable.not_not, Int.not_lt, Int.not_le, Nat.not_lt, Nat.not_le, strB_nil, strB_nil', strB_nnil, strB_nnil'] at h13
                        refine run_skip ?_
                        refine run_seq ?_
                        refine run_region (q_assign .n (.c rfl) rfl <|
                            Lex.nil) ?_
                        exact run_ret [] (.cons (.t rfl rfl) .nil) rfl trivial rfl

end Go.Proofs.Ytchjibndocnnhaa
