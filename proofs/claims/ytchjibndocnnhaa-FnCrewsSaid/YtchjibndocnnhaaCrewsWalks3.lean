/-
  THE WALKS: each Go function computes its model. Conditions: as each theorem states them (hp1, hp2 ..).
-/
import Derived.Test.YtchjibndocnnhaaCrewsWalks2
set_option linter.unusedVariables false
set_option linter.unusedSimpArgs false
set_option linter.unusedSectionVars false
set_option linter.unnecessarySimpa false
namespace Go.Proofs.Ytchjibndocnnhaa
open Go Go.RowKit Go.Proofs Go.Proofs.Ytchjibndocnnhaa.E
/-! ### spec_l00Rises -/
theorem c_spec_l00Rises (list : List Int) (low : Int) (high : Int) : Con Try.prog 77 [.sl 1 (list.map (V.int .i64)), .int .i64 low, .int .i64 high] [] (.bool (m_spec_l00Rises list low high)) ([]) := by
  refine con_intro (out := fun r : Bool => ((.bool r : V), ([] : List (Nat × Option O)))) (r := (m_spec_l00Rises list low high)) Try.func77 rfl Try.ntmps77 rfl ?_
  refine run_fact (t := 0) rfl fun hl => ?_
  have l1 := hl; clear hl; simp only [List.length_map] at l1
  refine run_seq ?_
  refine run_region (q_assign .n (.c rfl) rfl <|
      Lex.nil) ?_
  refine run_seq ?_
  refine run_seq ?_
  refine run_region (q_assign .n (.c rfl) rfl <|
      Lex.nil) ?_
  refine run_block ?_
  refine run_LOOP (m_spec_l00Rises_b1 list low high) _ _ _ rfl (fun (x1 : Int) => 0 ≤ x1 ∧ x1 ≤ (list.length : Int)) (fun x1 => 0 ≤ x1 ∧ x1 ≤ (list.length : Int) ∧ (list.length : Int) ≤ x1) (fun x1 => ((list.length : Int) - x1 : Int).toNat) (fun x1 => ⟨[(0, some (true, .sl 1 (list.map (V.int .i64)))), (1, some (true, .int .i64 low)), (2, some (true, .int .i64 high)), (7, some (true, .int .i64 x1))], []⟩) (fun x1 => ⟨[], []⟩) ⟨by omega, by omega⟩ (by omega) (sub_of [] ⟨rfl, rfl, rfl, rfl, trivial⟩ trivial rfl) ?_ ?_
  · intro x1 i6
    obtain ⟨e7, e8, e9⟩ := i6
    try dsimp only at *
    refine run_seq ?_
    refine run_region (q_assign .n (.c rfl) rfl <|
        Lex.nil) ?_
    exact run_ret [] (.cons (.t rfl rfl) .nil) rfl trivial rfl
  · intro rec1 k1 hk2 x1 i3
    obtain ⟨e10, e11⟩ := i3
    try dsimp only at *
    refine run_seq ?_
    refine run_seq ?_
    refine run_region (q_move .n (.t rfl) rfl <|
        q_move .n (.t rfl) rfl <|
        q_len .n (.t rfl) rfl len_map ss_25 rfl <|
        q_int .n (.t rfl) (.t rfl) rfl rfl <|
        Lex.nil) ?_
    refine run_cond (.t rfl) rfl (fun h4 => ?_) (fun h4 => ?_)
    · try simp only [Bool.and_eq_true, Bool.or_eq_true, Bool.not_eq_true', Bool.and_eq_false_iff, Bool.or_eq_false_iff, Bool.not_eq_false', decide_eq_true_eq, decide_eq_false_iff_not, beq_iff_eq, bne_iff_ne, beq_eq_false_iff_ne, bne_eq_false_iff_eq, Bool.true_and, ne_eq, Decidable.not_not, Int.not_lt, Int.not_le, Nat.not_lt, Nat.not_le, strB_nil, strB_nil', strB_nnil, strB_nnil'] at h4
      refine run_skip ?_
      refine run_seq ?_
      refine run_block ?_
      refine run_seq ?_
      refine run_draw fmo (q_move .n (.t rfl) rfl <|
          q_move .n (.t rfl) rfl <|
          q_idx_rm .n (.t rfl) (.t rfl) sl_25 (fun _ => by omega) rfl <|
          q_ld1_ro .n (.t rfl) rfl ic_2 rfl <|
          q_move .n (.t rfl) rfl <|
          q_move .n (.t rfl) rfl <|
          q_call0 (full := false) .n .f en_62 (.cons (.t rfl) (.cons (.t rfl) (.cons (.t rfl) .nil))) (.cons (.b (.a (.same rfl))) (.cons (.b (.a (.same rfl))) (.cons (.b (.a (.same rfl))) .nil))) (fun hg => c_spec_l00In (at' list x1) low high) rfl (fun h => Bool.noConfusion h) rfl <|
          q_not .n (.t rfl) rfl <|
          q_move .n (.t rfl) rfl <|
          q_move (.f rfl rfl) (.t rfl) rfl <|
          q_int (.f rfl rfl) (.u rfl id) (.c rfl) rfl rfl <|
          q_move (.f rfl rfl) (.u rfl id) rfl <|
          q_move (.t rfl rfl) (.t rfl) rfl <|
          q_move (.t rfl rfl) (.t rfl) rfl <|
          q_sub (.t rfl rfl) (.u rfl id) (.c rfl) (fun hg => by simp only [Bool.and_eq_true, Bool.or_eq_true, Bool.not_eq_true', Bool.and_eq_false_iff, Bool.or_eq_false_iff, Bool.not_eq_false', decide_eq_true_eq, decide_eq_false_iff_not, beq_iff_eq, bne_iff_ne, beq_eq_false_iff_ne, bne_eq_false_iff_eq, Bool.true_and, ne_eq, Decidable.not_not, Int.not_lt, Int.not_le, Nat.not_lt, Nat.not_le, strB_nil, strB_nil', strB_nnil, strB_nnil'] at hg; omega) rfl <|
          q_idx_rm (.t rfl rfl) (.u rfl id) (.u rfl id) sl_25 (fun hg => by simp only [Bool.and_eq_true, Bool.or_eq_true, Bool.not_eq_true', Bool.and_eq_false_iff, Bool.or_eq_false_iff, Bool.not_eq_false', decide_eq_true_eq, decide_eq_false_iff_not, beq_iff_eq, bne_iff_ne, beq_eq_false_iff_ne, bne_eq_false_iff_eq, Bool.true_and, ne_eq, Decidable.not_not, Int.not_lt, Int.not_le, Nat.not_lt, Nat.not_le, strB_nil, strB_nil', strB_nnil, strB_nnil'] at hg; omega) rfl <|
          q_ld1_ro (.t rfl rfl) (.u rfl id) rfl ic_2 rfl <|
          q_move (.t rfl rfl) (.t rfl) rfl <|
          q_move (.t rfl rfl) (.t rfl) rfl <|
          q_idx_rm (.t rfl rfl) (.u rfl id) (.u rfl id) sl_25 (fun hg => by simp only [Bool.and_eq_true, Bool.or_eq_true, Bool.not_eq_true', Bool.and_eq_false_iff, Bool.or_eq_false_iff, Bool.not_eq_false', decide_eq_true_eq, decide_eq_false_iff_not, beq_iff_eq, bne_iff_ne, beq_eq_false_iff_ne, bne_eq_false_iff_eq, Bool.true_and, ne_eq, Decidable.not_not, Int.not_lt, Int.not_le, Nat.not_lt, Nat.not_le, strB_nil, strB_nil', strB_nnil, strB_nnil'] at hg; omega) rfl <|
          q_ld1_ro (.t rfl rfl) (.u rfl id) rfl ic_2 rfl <|
          q_int (.t rfl rfl) (.u rfl id) (.u rfl id) rfl rfl <|
          q_and (.f rfl rfl) (.u rfl id) (.u rfl id) rfl <|
          q_or .n (.t rfl) (.u rfl id) rfl <|
          Lex.nil) (by kernel_rfl) ?_
      refine run_cond (.t rfl) rfl (fun h5 => ?_) (fun h5 => ?_)
      · try simp only [Bool.and_eq_true, Bool.or_eq_true, Bool.not_eq_true', Bool.and_eq_false_iff, Bool.or_eq_false_iff, Bool.not_eq_false', decide_eq_true_eq, decide_eq_false_iff_not, beq_iff_eq, bne_iff_ne, beq_eq_false_iff_ne, bne_eq_false_iff_eq, Bool.true_and, ne_eq, Decidable.not_not, Int.not_lt, Int.not_le, Nat.not_lt, Nat.not_le, strB_nil, strB_nil', strB_nnil, strB_nnil'] at h5
        try have hf0h5 := l00In_imp h5
        try have hf1h5 := l00In_imp h5.1
        try have hf2h5 := l00In_imp h5.2
        try have hf3h5 := l00In_imp h5.1.1
        try have hf4h5 := l00In_imp h5.1.2
        try have hf5h5 := l00In_imp h5.2.1
        try have hf6h5 := l00In_imp h5.2.2
        refine run_seq ?_
        refine run_region (q_assign .n (.c rfl) rfl <|
            Lex.nil) ?_
        exact run_ret [] (.cons (.t rfl rfl) .nil) rfl trivial rfl
      · try simp only [Bool.and_eq_true, Bool.or_eq_true, Bool.not_eq_true', Bool.and_eq_false_iff, Bool.or_eq_false_iff, Bool.not_eq_false', decide_eq_true_eq, decide_eq_false_iff_not, beq_iff_eq, bne_iff_ne, beq_eq_false_iff_ne, bne_eq_false_iff_eq, Bool.true_and, ne_eq, Decidable.not_not, Int.not_lt, Int.not_le, Nat.not_lt, Nat.not_le, strB_nil, strB_nil', strB_nnil, strB_nnil'] at h5
        try have hf0h5 := l00In_imp h5
        try have hf1h5 := l00In_imp h5.1
        try have hf2h5 := l00In_imp h5.2
        try have hf3h5 := l00In_imp h5.1.1
        try have hf4h5 := l00In_imp h5.1.2
        try have hf5h5 := l00In_imp h5.2.1
        try have hf6h5 := l00In_imp h5.2.2
        refine run_skip ?_
        refine run_endB ?_
        refine run_region (q_move .n (.t rfl) rfl <|
            q_add .n (.t rfl) (.c rfl) (fun _ => by omega) rfl <|
            q_assign .n (.t rfl) rfl <|
            Lex.nil) ?_
        exact run_again (x1 + 1) ⟨by omega, by omega⟩ (by omega) (sub_of [] ⟨rfl, rfl, rfl, rfl, trivial⟩ trivial rfl)
    · try simp only [Bool.and_eq_true, Bool.or_eq_true, Bool.not_eq_true', Bool.and_eq_false_iff, Bool.or_eq_false_iff, Bool.not_eq_false', decide_eq_true_eq, decide_eq_false_iff_not, beq_iff_eq, bne_iff_ne, beq_eq_false_iff_ne, bne_eq_false_iff_eq, Bool.true_and, ne_eq, Decidable.not_not, Int.not_lt, Int.not_le, Nat.not_lt, Nat.not_le, strB_nil, strB_nil', strB_nnil, strB_nnil'] at h4
      refine run_exit rfl ?_
      exact run_cont hk2 x1 ⟨by omega, by omega, by omega⟩ (sub_of [] trivial trivial rfl)

/-! ### spec_ShiftFits -/
theorem c_spec_ShiftFits (m_ : gMine) (flows : List Int) (list : List gJob) (some_ : List Int) : Con Try.prog 35 [.st [.int .i64 m_.Junctions, .sl 7 (m_.Airways.map gAirway.v)], .sl 1 (flows.map (V.int .i64)), .sl 4 (list.map gJob.v), .sl 1 (some_.map (V.int .i64))] [] (.bool (m_spec_ShiftFits m_ flows list some_)) ([]) := by
  refine con_intro (out := fun r : Bool => ((.bool r : V), ([] : List (Nat × Option O)))) (r := (m_spec_ShiftFits m_ flows list some_)) Try.func35 rfl Try.ntmps35 rfl ?_
  refine run_factS (t := 0) 1 rfl rfl fun hl => ?_
  have l1 := hl; clear hl; simp only [List.length_map] at l1
  refine run_fact (t := 1) rfl fun hl => ?_
  have l2 := hl; clear hl; simp only [List.length_map] at l2
  refine run_fact (t := 2) rfl fun hl => ?_
  have l3 := hl; clear hl; simp only [List.length_map] at l3
  refine run_fact (t := 3) rfl fun hl => ?_
  have l4 := hl; clear hl; simp only [List.length_map] at l4
  refine run_seq ?_
  refine run_region (q_box (l := 200) .n rfl (.t rfl) rfl rfl rfl rfl <|
      q_assign .n (.c rfl) rfl <|
      Lex.nil) ?_
  refine run_seq ?_
  refine run_region (q_move .n (.t rfl) rfl <|
      q_move .n (.t rfl) rfl <|
      q_call0 (full := true) .n .f en_76 (.cons (.t rfl) (.cons (.t rfl) (.cons (.t rfl) .nil))) (.cons (.b (.ptr rfl rfl (.inr rfl) rfl rfl (.cons (.same rfl) (.cons (.same rfl) .nil)))) (.cons (.b (.a (.same rfl))) (.cons (.b (.a (.same rfl))) .nil))) (fun hg => c_spec_l23Ask m_ flows list) rfl (fun _ => rfl) rfl <|
      q_int .n (.t rfl) (.c rfl) rfl rfl <|
      q_move .n (.t rfl) rfl <|
      q_move (.t rfl rfl) (.t rfl) rfl <|
      q_move (.t rfl rfl) (.t rfl) rfl <|
      q_len (.t rfl rfl) (.u rfl id) rfl len_map ss_36 rfl <|
      q_sub (.t rfl rfl) (.u rfl id) (.c rfl) (fun hg => by simp only [Bool.and_eq_true, Bool.or_eq_true, Bool.not_eq_true', Bool.and_eq_false_iff, Bool.or_eq_false_iff, Bool.not_eq_false', decide_eq_true_eq, decide_eq_false_iff_not, beq_iff_eq, bne_iff_ne, beq_eq_false_iff_ne, bne_eq_false_iff_eq, Bool.true_and, ne_eq, Decidable.not_not, Int.not_lt, Int.not_le, Nat.not_lt, Nat.not_le, strB_nil, strB_nil', strB_nnil, strB_nnil'] at hg; omega) rfl <|
      q_call0 (full := false) (.t rfl rfl) .f en_77 (.cons (.u rfl id) (.cons (.c rfl) (.cons (.u rfl id) .nil))) (.cons (.b (.a (.same rfl))) (.cons (.b (.a (.same rfl))) (.cons (.b (.a (.same rfl))) .nil))) (fun hg => c_spec_l00Rises some_ 0 ((list.length : Int) - 1)) rfl (fun h => Bool.noConfusion h) rfl <|
      q_and .n (.t rfl) (.u rfl id) rfl <|
      q_move .n (.t rfl) rfl <|
      q_move (.t rfl rfl) (.t rfl) rfl <|
      q_move (.t rfl rfl) (.t rfl) rfl <|
      q_move (.t rfl rfl) (.t rfl) rfl <|
      q_call0 (full := true) (.t rfl rfl) .f en_54 (.cons (.t rfl) (.cons (.u rfl id) (.cons (.u rfl id) (.cons (.u rfl id) .nil)))) (.cons (.b (.ptr rfl rfl (.inr rfl) rfl rfl (.cons (.same rfl) (.cons (.same rfl) .nil)))) (.cons (.b (.a (.same rfl))) (.cons (.b (.a (.same rfl))) (.cons (.b (.a (.same rfl))) .nil)))) (fun hg => c_spec_l23Fits m_ flows list some_ (by simp only [Bool.and_eq_true, Bool.or_eq_true, Bool.not_eq_true', Bool.and_eq_false_iff, Bool.or_eq_false_iff, Bool.not_eq_false', decide_eq_true_eq, decide_eq_false_iff_not, beq_iff_eq, bne_iff_ne, beq_eq_false_iff_ne, bne_eq_false_iff_eq, Bool.true_and, ne_eq, Decidable.not_not, Int.not_lt, Int.not_le, Nat.not_lt, Nat.not_le, strB_nil, strB_nil', strB_nnil, strB_nnil'] at hg; (exact l23Ask_impM hg.1)) (by simp only [Bool.and_eq_true, Bool.or_eq_true, Bool.not_eq_true', Bool.and_eq_false_iff, Bool.or_eq_false_iff, Bool.not_eq_false', decide_eq_true_eq, decide_eq_false_iff_not, beq_iff_eq, bne_iff_ne, beq_eq_false_iff_ne, bne_eq_false_iff_eq, Bool.true_and, ne_eq, Decidable.not_not, Int.not_lt, Int.not_le, Nat.not_lt, Nat.not_le, strB_nil, strB_nil', strB_nnil, strB_nnil'] at hg; (exact l23Ask_impF hg.1)) (by simp only [Bool.and_eq_true, Bool.or_eq_true, Bool.not_eq_true', Bool.and_eq_false_iff, Bool.or_eq_false_iff, Bool.not_eq_false', decide_eq_true_eq, decide_eq_false_iff_not, beq_iff_eq, bne_iff_ne, beq_eq_false_iff_ne, bne_eq_false_iff_eq, Bool.true_and, ne_eq, Decidable.not_not, Int.not_lt, Int.not_le, Nat.not_lt, Nat.not_le, strB_nil, strB_nil', strB_nnil, strB_nnil'] at hg; (exact (l23Ask_impS hg.1).air)) (by simp only [Bool.and_eq_true, Bool.or_eq_true, Bool.not_eq_true', Bool.and_eq_false_iff, Bool.or_eq_false_iff, Bool.not_eq_false', decide_eq_true_eq, decide_eq_false_iff_not, beq_iff_eq, bne_iff_ne, beq_eq_false_iff_ne, bne_eq_false_iff_eq, Bool.true_and, ne_eq, Decidable.not_not, Int.not_lt, Int.not_le, Nat.not_lt, Nat.not_le, strB_nil, strB_nil', strB_nnil, strB_nnil'] at hg; (exact rises_in hg.2))) rfl (fun _ => rfl) rfl <|
      q_and .n (.t rfl) (.u rfl id) rfl <|
      q_assign .n (.t rfl) rfl <|
      Lex.nil) ?_
  exact run_ret [] (.cons (.t rfl rfl) .nil) rfl trivial rfl

/-! ### impl_NeedOf -/
theorem c_impl_NeedOf (t : gJob) : Con Try.prog 36 [.st [.str t.Id, .int .i64 t.Airway, .int .i64 t.People, .int .i64 t.Power]] [] (.tup [.int .i64 (m_impl_NeedOf t).1, .int .i64 (m_impl_NeedOf t).2]) ([]) := by
  refine con_intro (out := fun r : Int × Int => ((.tup [.int .i64 r.1, .int .i64 r.2] : V), ([] : List (Nat × Option O)))) (r := (m_impl_NeedOf t)) Try.func36 rfl Try.ntmps36 rfl ?_
  refine run_seq ?_
  refine run_region (q_box (l := 200) .n rfl (.t rfl) rfl rfl rfl rfl <|
      q_assign .n (.c rfl) rfl <|
      q_assign .n (.c rfl) rfl <|
      Lex.nil) ?_
  refine run_seq ?_
  refine run_seq ?_
  refine run_region (q_ldN_ow .n (.t rfl) rfl (.inr rfl) ag_66 (fun _ => rfl) rfl rfl <|
      q_call0 (full := false) .n .f en_78 (.cons (.t rfl) .nil) (.cons (.sts rfl) .nil) (fun hg => c_impl_Job_valid t) rfl (fun h => Bool.noConfusion h) rfl <|
      q_not .n (.t rfl) rfl <|
      Lex.nil) ?_
  refine run_cond (.t rfl) rfl (fun h1 => ?_) (fun h1 => ?_)
  · try simp only [Bool.and_eq_true, Bool.or_eq_true, Bool.not_eq_true', Bool.and_eq_false_iff, Bool.or_eq_false_iff, Bool.not_eq_false', decide_eq_true_eq, decide_eq_false_iff_not, beq_iff_eq, bne_iff_ne, beq_eq_false_iff_ne, bne_eq_false_iff_eq, Bool.true_and, ne_eq, Decidable.not_not, Int.not_lt, Int.not_le, Nat.not_lt, Nat.not_le, strB_nil, strB_nil', strB_nnil, strB_nnil'] at h1
    refine run_seq ?_
    refine run_region (q_assign .n (.c rfl) rfl <|
        q_assign .n (.c rfl) rfl <|
        Lex.nil) ?_
    exact run_ret [] (.cons (.t rfl rfl) (.cons (.t rfl rfl) .nil)) rfl trivial rfl
  · try simp only [Bool.and_eq_true, Bool.or_eq_true, Bool.not_eq_true', Bool.and_eq_false_iff, Bool.or_eq_false_iff, Bool.not_eq_false', decide_eq_true_eq, decide_eq_false_iff_not, beq_iff_eq, bne_iff_ne, beq_eq_false_iff_ne, bne_eq_false_iff_eq, Bool.true_and, ne_eq, Decidable.not_not, Int.not_lt, Int.not_le, Nat.not_lt, Nat.not_le, strB_nil, strB_nil', strB_nnil, strB_nnil'] at h1
    refine run_skip ?_
    refine run_seq ?_
    refine run_region (q_ldN_ow .n (.t rfl) rfl (.inr rfl) ag_66 (fun _ => rfl) rfl rfl <|
        q_call0 (full := false) .n .f en_79 (.cons (.t rfl) .nil) (.cons (.sts rfl) .nil) (fun hg => c_impl_Job_need t) rfl (fun h => Bool.noConfusion h) rfl <|
        q_assign .n (.t rfl) rfl <|
        q_assign .n (.c rfl) rfl <|
        Lex.nil) ?_
    exact run_ret [] (.cons (.t rfl rfl) (.cons (.t rfl rfl) .nil)) rfl trivial rfl

/-! ### laws_r8Has -/
theorem c_laws_r8Has (list : List Int) (n_ : Int) : Con Try.prog 37 [.sl 1 (list.map (V.int .i64)), .int .i64 n_] [] (.bool (m_laws_r8Has list n_)) ([]) := by
  refine con_intro (out := fun r : Bool => ((.bool r : V), ([] : List (Nat × Option O)))) (r := (m_laws_r8Has list n_)) Try.func37 rfl Try.ntmps37 rfl ?_
  refine run_fact (t := 0) rfl fun hl => ?_
  have l1 := hl; clear hl; simp only [List.length_map] at l1
  refine run_seq ?_
  refine run_region (q_assign .n (.c rfl) rfl <|
      Lex.nil) ?_
  refine run_seq ?_
  refine run_seq ?_
  refine run_region (q_assign .n (.c rfl) rfl <|
      Lex.nil) ?_
  refine run_block ?_
  refine run_LOOP (m_laws_r8Has_b1 list n_) _ _ _ rfl (fun (x1 : Int) => 0 ≤ x1 ∧ x1 ≤ (list.length : Int)) (fun x1 => 0 ≤ x1 ∧ x1 ≤ (list.length : Int) ∧ (list.length : Int) ≤ x1) (fun x1 => ((list.length : Int) - x1 : Int).toNat) (fun x1 => ⟨[(0, some (true, .sl 1 (list.map (V.int .i64)))), (1, some (true, .int .i64 n_)), (5, some (true, .int .i64 x1))], []⟩) (fun x1 => ⟨[], []⟩) ⟨by omega, by omega⟩ (by omega) (sub_of [] ⟨rfl, rfl, rfl, trivial⟩ trivial rfl) ?_ ?_
  · intro x1 i6
    obtain ⟨e7, e8, e9⟩ := i6
    try dsimp only at *
    refine run_seq ?_
    refine run_region (q_assign .n (.c rfl) rfl <|
        Lex.nil) ?_
    exact run_ret [] (.cons (.t rfl rfl) .nil) rfl trivial rfl
  · intro rec1 k1 hk2 x1 i3
    obtain ⟨e10, e11⟩ := i3
    try dsimp only at *
    refine run_seq ?_
    refine run_seq ?_
    refine run_region (q_move .n (.t rfl) rfl <|
        q_move .n (.t rfl) rfl <|
        q_len .n (.t rfl) rfl len_map ss_25 rfl <|
        q_int .n (.t rfl) (.t rfl) rfl rfl <|
        Lex.nil) ?_
    refine run_cond (.t rfl) rfl (fun h4 => ?_) (fun h4 => ?_)
    · try simp only [Bool.and_eq_true, Bool.or_eq_true, Bool.not_eq_true', Bool.and_eq_false_iff, Bool.or_eq_false_iff, Bool.not_eq_false', decide_eq_true_eq, decide_eq_false_iff_not, beq_iff_eq, bne_iff_ne, beq_eq_false_iff_ne, bne_eq_false_iff_eq, Bool.true_and, ne_eq, Decidable.not_not, Int.not_lt, Int.not_le, Nat.not_lt, Nat.not_le, strB_nil, strB_nil', strB_nnil, strB_nnil'] at h4
      refine run_skip ?_
      refine run_seq ?_
      refine run_block ?_
      refine run_seq ?_
      refine run_region (q_move .n (.t rfl) rfl <|
          q_move .n (.t rfl) rfl <|
          q_idx_rm .n (.t rfl) (.t rfl) sl_25 (fun _ => by omega) rfl <|
          q_ld1_ro .n (.t rfl) rfl ic_2 rfl <|
          q_move .n (.t rfl) rfl <|
          q_int .n (.t rfl) (.t rfl) rfl rfl <|
          Lex.nil) ?_
      refine run_cond (.t rfl) rfl (fun h5 => ?_) (fun h5 => ?_)
      · try simp only [Bool.and_eq_true, Bool.or_eq_true, Bool.not_eq_true', Bool.and_eq_false_iff, Bool.or_eq_false_iff, Bool.not_eq_false', decide_eq_true_eq, decide_eq_false_iff_not, beq_iff_eq, bne_iff_ne, beq_eq_false_iff_ne, bne_eq_false_iff_eq, Bool.true_and, ne_eq, Decidable.not_not, Int.not_lt, Int.not_le, Nat.not_lt, Nat.not_le, strB_nil, strB_nil', strB_nnil, strB_nnil'] at h5
        refine run_seq ?_
        refine run_region (q_assign .n (.c rfl) rfl <|
            Lex.nil) ?_
        exact run_ret [] (.cons (.t rfl rfl) .nil) rfl trivial rfl
      · try simp only [Bool.and_eq_true, Bool.or_eq_true, Bool.not_eq_true', Bool.and_eq_false_iff, Bool.or_eq_false_iff, Bool.not_eq_false', decide_eq_true_eq, decide_eq_false_iff_not, beq_iff_eq, bne_iff_ne, beq_eq_false_iff_ne, bne_eq_false_iff_eq, Bool.true_and, ne_eq, Decidable.not_not, Int.not_lt, Int.not_le, Nat.not_lt, Nat.not_le, strB_nil, strB_nil', strB_nnil, strB_nnil'] at h5
        refine run_skip ?_
        refine run_endB ?_
        refine run_region (q_move .n (.t rfl) rfl <|
            q_add .n (.t rfl) (.c rfl) (fun _ => by omega) rfl <|
            q_assign .n (.t rfl) rfl <|
            Lex.nil) ?_
        exact run_again (x1 + 1) ⟨by omega, by omega⟩ (by omega) (sub_of [] ⟨rfl, rfl, rfl, trivial⟩ trivial rfl)
    · try simp only [Bool.and_eq_true, Bool.or_eq_true, Bool.not_eq_true', Bool.and_eq_false_iff, Bool.or_eq_false_iff, Bool.not_eq_false', decide_eq_true_eq, decide_eq_false_iff_not, beq_iff_eq, bne_iff_ne, beq_eq_false_iff_ne, bne_eq_false_iff_eq, Bool.true_and, ne_eq, Decidable.not_not, Int.not_lt, Int.not_le, Nat.not_lt, Nat.not_le, strB_nil, strB_nil', strB_nnil, strB_nnil'] at h4
      refine run_exit rfl ?_
      exact run_cont hk2 x1 ⟨by omega, by omega, by omega⟩ (sub_of [] trivial trivial rfl)

/-! ### impl_increasing -/
theorem c_impl_increasing (list : List Int) : Con Try.prog 110 [.sl 1 (list.map (V.int .i64))] [] (.bool (m_impl_increasing list)) ([]) := by
  refine con_intro (out := fun r : Bool => ((.bool r : V), ([] : List (Nat × Option O)))) (r := (m_impl_increasing list)) Try.func110 rfl Try.ntmps110 rfl ?_
  refine run_fact (t := 0) rfl fun hl => ?_
  have l1 := hl; clear hl; simp only [List.length_map] at l1
  refine run_seq ?_
  refine run_region (q_assign .n (.c rfl) rfl <|
      Lex.nil) ?_
  refine run_seq ?_
  refine run_seq ?_
  refine run_region (q_assign .n (.c rfl) rfl <|
      Lex.nil) ?_
  refine run_block ?_
  refine run_LOOP (m_impl_increasing_b1 list) _ _ _ rfl (fun (x1 : Int) => 1 ≤ x1) (fun x1 => 1 ≤ x1) (fun x1 => ((list.length : Int) - x1 : Int).toNat) (fun x1 => ⟨[(0, some (true, .sl 1 (list.map (V.int .i64)))), (3, some (true, .int .i64 x1))], []⟩) (fun x1 => ⟨[], []⟩) (by omega) (by omega) (sub_of [] ⟨rfl, rfl, trivial⟩ trivial rfl) ?_ ?_
  · intro x1 i6
    have e7 := i6
    try dsimp only at *
    refine run_seq ?_
    refine run_region (q_assign .n (.c rfl) rfl <|
        Lex.nil) ?_
    exact run_ret [] (.cons (.t rfl rfl) .nil) rfl trivial rfl
  · intro rec1 k1 hk2 x1 i3
    have e8 := i3
    try dsimp only at *
    refine run_seq ?_
    refine run_seq ?_
    refine run_region (q_move .n (.t rfl) rfl <|
        q_move .n (.t rfl) rfl <|
        q_len .n (.t rfl) rfl len_map ss_25 rfl <|
        q_int .n (.t rfl) (.t rfl) rfl rfl <|
        Lex.nil) ?_
    refine run_cond (.t rfl) rfl (fun h4 => ?_) (fun h4 => ?_)
    · try simp only [Bool.and_eq_true, Bool.or_eq_true, Bool.not_eq_true', Bool.and_eq_false_iff, Bool.or_eq_false_iff, Bool.not_eq_false', decide_eq_true_eq, decide_eq_false_iff_not, beq_iff_eq, bne_iff_ne, beq_eq_false_iff_ne, bne_eq_false_iff_eq, Bool.true_and, ne_eq, Decidable.not_not, Int.not_lt, Int.not_le, Nat.not_lt, Nat.not_le, strB_nil, strB_nil', strB_nnil, strB_nnil'] at h4
      refine run_skip ?_
      refine run_seq ?_
      refine run_block ?_
      refine run_seq ?_
      refine run_draw fmo (q_move .n (.t rfl) rfl <|
          q_move .n (.t rfl) rfl <|
          q_idx_rm .n (.t rfl) (.t rfl) sl_25 (fun _ => by omega) rfl <|
          q_ld1_ro .n (.t rfl) rfl ic_2 rfl <|
          q_move .n (.t rfl) rfl <|
          q_move .n (.t rfl) rfl <|
          q_sub .n (.t rfl) (.c rfl) (fun _ => by omega) rfl <|
          q_idx_rm .n (.t rfl) (.t rfl) sl_25 (fun _ => by omega) rfl <|
          q_ld1_ro .n (.t rfl) rfl ic_2 rfl <|
          q_int .n (.t rfl) (.t rfl) rfl rfl <|
          Lex.nil) (by kernel_rfl) ?_
      refine run_cond (.t rfl) rfl (fun h5 => ?_) (fun h5 => ?_)
      · try simp only [Bool.and_eq_true, Bool.or_eq_true, Bool.not_eq_true', Bool.and_eq_false_iff, Bool.or_eq_false_iff, Bool.not_eq_false', decide_eq_true_eq, decide_eq_false_iff_not, beq_iff_eq, bne_iff_ne, beq_eq_false_iff_ne, bne_eq_false_iff_eq, Bool.true_and, ne_eq, Decidable.not_not, Int.not_lt, Int.not_le, Nat.not_lt, Nat.not_le, strB_nil, strB_nil', strB_nnil, strB_nnil'] at h5
        refine run_seq ?_
        refine run_region (q_assign .n (.c rfl) rfl <|
            Lex.nil) ?_
        exact run_ret [] (.cons (.t rfl rfl) .nil) rfl trivial rfl
      · try simp only [Bool.and_eq_true, Bool.or_eq_true, Bool.not_eq_true', Bool.and_eq_false_iff, Bool.or_eq_false_iff, Bool.not_eq_false', decide_eq_true_eq, decide_eq_false_iff_not, beq_iff_eq, bne_iff_ne, beq_eq_false_iff_ne, bne_eq_false_iff_eq, Bool.true_and, ne_eq, Decidable.not_not, Int.not_lt, Int.not_le, Nat.not_lt, Nat.not_le, strB_nil, strB_nil', strB_nnil, strB_nnil'] at h5
        refine run_skip ?_
        refine run_endB ?_
        refine run_region (q_move .n (.t rfl) rfl <|
            q_add .n (.t rfl) (.c rfl) (fun _ => by omega) rfl <|
            q_assign .n (.t rfl) rfl <|
            Lex.nil) ?_
        exact run_again (x1 + 1) (by omega) (by omega) (sub_of [] ⟨rfl, rfl, trivial⟩ trivial rfl)
    · try simp only [Bool.and_eq_true, Bool.or_eq_true, Bool.not_eq_true', Bool.and_eq_false_iff, Bool.or_eq_false_iff, Bool.not_eq_false', decide_eq_true_eq, decide_eq_false_iff_not, beq_iff_eq, bne_iff_ne, beq_eq_false_iff_ne, bne_eq_false_iff_eq, Bool.true_and, ne_eq, Decidable.not_not, Int.not_lt, Int.not_le, Nat.not_lt, Nat.not_le, strB_nil, strB_nil', strB_nnil, strB_nnil'] at h4
      refine run_exit rfl ?_
      exact run_cont hk2 x1 (by omega) (sub_of [] trivial trivial rfl)

/-! ### impl_someOk -/
theorem c_impl_someOk (list : List gJob) (some_ : List Int) : Con Try.prog 80 [.sl 4 (list.map gJob.v), .sl 1 (some_.map (V.int .i64))] [] (.bool (m_impl_someOk list some_)) ([]) := by
  refine con_intro (out := fun r : Bool => ((.bool r : V), ([] : List (Nat × Option O)))) (r := (m_impl_someOk list some_)) Try.func80 rfl Try.ntmps80 rfl ?_
  refine run_fact (t := 0) rfl fun hl => ?_
  have l1 := hl; clear hl; simp only [List.length_map] at l1
  refine run_fact (t := 1) rfl fun hl => ?_
  have l2 := hl; clear hl; simp only [List.length_map] at l2
  refine run_seq ?_
  refine run_region (q_assign .n (.c rfl) rfl <|
      Lex.nil) ?_
  refine run_seq ?_
  refine run_region (q_move .n (.t rfl) rfl <|
      q_call0 (full := false) .n .f en_110 (.cons (.t rfl) .nil) (.cons (.b (.a (.same rfl))) .nil) (fun hg => c_impl_increasing some_) rfl (fun h => Bool.noConfusion h) rfl <|
      q_move .n (.t rfl) rfl <|
      q_move (.t rfl rfl) (.t rfl) rfl <|
      q_move (.t rfl rfl) (.t rfl) rfl <|
      q_len (.t rfl rfl) (.u rfl id) rfl len_map ss_36 rfl <|
      q_sub (.t rfl rfl) (.u rfl id) (.c rfl) (fun hg => by simp only [Bool.and_eq_true, Bool.or_eq_true, Bool.not_eq_true', Bool.and_eq_false_iff, Bool.or_eq_false_iff, Bool.not_eq_false', decide_eq_true_eq, decide_eq_false_iff_not, beq_iff_eq, bne_iff_ne, beq_eq_false_iff_ne, bne_eq_false_iff_eq, Bool.true_and, ne_eq, Decidable.not_not, Int.not_lt, Int.not_le, Nat.not_lt, Nat.not_le, strB_nil, strB_nil', strB_nnil, strB_nnil'] at hg; omega) rfl <|
      q_call0 (full := false) (.t rfl rfl) .f en_111 (.cons (.u rfl id) (.cons (.c rfl) (.cons (.u rfl id) .nil))) (.cons (.b (.a (.same rfl))) (.cons (.b (.a (.same rfl))) (.cons (.b (.a (.same rfl))) .nil))) (fun hg => c_impl_allWithin some_ 0 ((list.length : Int) - 1)) rfl (fun h => Bool.noConfusion h) rfl <|
      q_and .n (.t rfl) (.u rfl id) rfl <|
      q_assign .n (.t rfl) rfl <|
      Lex.nil) ?_
  exact run_ret [] (.cons (.t rfl rfl) .nil) rfl trivial rfl

/-! ### impl_PeopleIn -/
theorem c_impl_PeopleIn (m_ : gMine) (list : List gJob) (some_ : List Int) (hp1 : some_.length ≤ 1000) : Con Try.prog 38 [.st [.int .i64 m_.Junctions, .sl 7 (m_.Airways.map gAirway.v)], .sl 4 (list.map gJob.v), .sl 1 (some_.map (V.int .i64))] [] (.tup [.int .i64 (m_impl_PeopleIn m_ list some_).1, .int .i64 (m_impl_PeopleIn m_ list some_).2]) ([]) := by
  refine con_intro (out := fun r : Int × Int => ((.tup [.int .i64 r.1, .int .i64 r.2] : V), ([] : List (Nat × Option O)))) (r := (m_impl_PeopleIn m_ list some_)) Try.func38 rfl Try.ntmps38 rfl ?_
  have hJL := jobsOf_len list some_
  refine run_factS (t := 0) 1 rfl rfl fun hl => ?_
  have l1 := hl; clear hl; simp only [List.length_map] at l1
  refine run_fact (t := 1) rfl fun hl => ?_
  have l2 := hl; clear hl; simp only [List.length_map] at l2
  refine run_fact (t := 2) rfl fun hl => ?_
  have l3 := hl; clear hl; simp only [List.length_map] at l3
  refine run_seq ?_
  refine run_region (q_box (l := 200) .n rfl (.t rfl) rfl rfl rfl rfl <|
      q_assign .n (.c rfl) rfl <|
      q_assign .n (.c rfl) rfl <|
      Lex.nil) ?_
  refine run_seq ?_
  refine run_block ?_
  refine run_seq ?_
  refine run_region (q_ldN_ow .n (.t rfl) rfl (.inr rfl) ag_33 (fun _ => rfl) rfl rfl <|
      q_move .n (.t rfl) rfl <|
      q_call0 (full := false) .n .f en_73 (.cons (.t rfl) (.cons (.t rfl) .nil)) (.cons (.sts rfl) (.cons (.b (.a (.same rfl))) .nil)) (fun hg => c_impl_ValidJobs m_ list) rfl (fun h => Bool.noConfusion h) rfl <|
      q_not .n (.t rfl) rfl <|
      q_assign .n (.t rfl) rfl <|
      Lex.nil) ?_
  refine run_cond (.t rfl) rfl (fun h4 => ?_) (fun h4 => ?_)
  · try simp only [Bool.and_eq_true, Bool.or_eq_true, Bool.not_eq_true', Bool.and_eq_false_iff, Bool.or_eq_false_iff, Bool.not_eq_false', decide_eq_true_eq, decide_eq_false_iff_not, beq_iff_eq, bne_iff_ne, beq_eq_false_iff_ne, bne_eq_false_iff_eq, Bool.true_and, ne_eq, Decidable.not_not, Int.not_lt, Int.not_le, Nat.not_lt, Nat.not_le, strB_nil, strB_nil', strB_nnil, strB_nnil'] at h4
    try have hf0h4 := valJobs_in h4
    try have hf1h4 := valJobs_in h4.1
    try have hf2h4 := valJobs_in h4.2
    try have hf3h4 := valJobs_in h4.1.1
    try have hf4h4 := valJobs_in h4.1.2
    try have hf5h4 := valJobs_in h4.2.1
    try have hf6h4 := valJobs_in h4.2.2
    try have hf7h4 := valJobs_m h4
    try have hf8h4 := valJobs_m h4.1
    try have hf9h4 := valJobs_m h4.2
    try have hf10h4 := valJobs_m h4.1.1
    try have hf11h4 := valJobs_m h4.1.2
    try have hf12h4 := valJobs_m h4.2.1
    try have hf13h4 := valJobs_m h4.2.2
    refine run_seq ?_
    refine run_region (q_assign .n (.c rfl) rfl <|
        q_assign .n (.c rfl) rfl <|
        Lex.nil) ?_
    exact run_ret [] (.cons (.t rfl rfl) (.cons (.t rfl rfl) .nil)) rfl trivial rfl
  · try simp only [Bool.and_eq_true, Bool.or_eq_true, Bool.not_eq_true', Bool.and_eq_false_iff, Bool.or_eq_false_iff, Bool.not_eq_false', decide_eq_true_eq, decide_eq_false_iff_not, beq_iff_eq, bne_iff_ne, beq_eq_false_iff_ne, bne_eq_false_iff_eq, Bool.true_and, ne_eq, Decidable.not_not, Int.not_lt, Int.not_le, Nat.not_lt, Nat.not_le, strB_nil, strB_nil', strB_nnil, strB_nnil'] at h4
    try have hf0h4 := valJobs_in h4
    try have hf1h4 := valJobs_in h4.1
    try have hf2h4 := valJobs_in h4.2
    try have hf3h4 := valJobs_in h4.1.1
    try have hf4h4 := valJobs_in h4.1.2
    try have hf5h4 := valJobs_in h4.2.1
    try have hf6h4 := valJobs_in h4.2.2
    try have hf7h4 := valJobs_m h4
    try have hf8h4 := valJobs_m h4.1
    try have hf9h4 := valJobs_m h4.2
    try have hf10h4 := valJobs_m h4.1.1
    try have hf11h4 := valJobs_m h4.1.2
    try have hf12h4 := valJobs_m h4.2.1
    try have hf13h4 := valJobs_m h4.2.2
    refine run_seq ?_
    refine run_region (q_move .n (.t rfl) rfl <|
        q_move .n (.t rfl) rfl <|
        q_call0 (full := false) .n .f en_80 (.cons (.t rfl) (.cons (.t rfl) .nil)) (.cons (.b (.a (.same rfl))) (.cons (.b (.a (.same rfl))) .nil)) (fun hg => c_impl_someOk list some_) rfl (fun h => Bool.noConfusion h) rfl <|
        q_not .n (.t rfl) rfl <|
        q_assign .n (.t rfl) rfl <|
        Lex.nil) ?_
    refine run_cond (.t rfl) rfl (fun h5 => ?_) (fun h5 => ?_)
    · try simp only [Bool.and_eq_true, Bool.or_eq_true, Bool.not_eq_true', Bool.and_eq_false_iff, Bool.or_eq_false_iff, Bool.not_eq_false', decide_eq_true_eq, decide_eq_false_iff_not, beq_iff_eq, bne_iff_ne, beq_eq_false_iff_ne, bne_eq_false_iff_eq, Bool.true_and, ne_eq, Decidable.not_not, Int.not_lt, Int.not_le, Nat.not_lt, Nat.not_le, strB_nil, strB_nil', strB_nnil, strB_nnil'] at h5
      refine run_seq ?_
      refine run_region (q_assign .n (.c rfl) rfl <|
          q_assign .n (.c rfl) rfl <|
          Lex.nil) ?_
      exact run_ret [] (.cons (.t rfl rfl) (.cons (.t rfl rfl) .nil)) rfl trivial rfl
    · try simp only [Bool.and_eq_true, Bool.or_eq_true, Bool.not_eq_true', Bool.and_eq_false_iff, Bool.or_eq_false_iff, Bool.not_eq_false', decide_eq_true_eq, decide_eq_false_iff_not, beq_iff_eq, bne_iff_ne, beq_eq_false_iff_ne, bne_eq_false_iff_eq, Bool.true_and, ne_eq, Decidable.not_not, Int.not_lt, Int.not_le, Nat.not_lt, Nat.not_le, strB_nil, strB_nil', strB_nnil, strB_nnil'] at h5
      refine run_skip ?_
      refine run_endB ?_
      refine run_seq ?_
      refine run_region (q_assign .n (.c rfl) rfl <|
          Lex.nil) ?_
      refine run_seq ?_
      refine run_seq ?_
      refine run_region (q_move .n (.t rfl) rfl <|
          q_move .n (.t rfl) rfl <|
          q_callM (full := false) [] [(100, 201)] .n rfl .f en_81 (.cons (.t rfl) (.cons (.t rfl) .nil)) (.cons (.b (.a (.same rfl))) (.cons (.b (.a (.same rfl))) .nil)) (c_impl_jobsOf list some_ (by (exact someOk_in (by assumption))) (by omega)) trivial rfl rfl (fun h => Bool.noConfusion h) (fun h => Bool.noConfusion h) rfl <|
          q_len .n (.t rfl) rfl rfl ss_36 rfl <|
          q_move .n (.c rfl) rfl <|
          Lex.nil) ?_
      refine run_block ?_
      refine run_LOOP (m_impl_PeopleIn_b1 m_ list some_) _ _ _ rfl (fun (x1 : Int × Int) => 0 ≤ x1.2 ∧ x1.2 ≤ ((m_impl_jobsOf list some_).length : Int)) (fun x1 => 0 ≤ x1.2 ∧ x1.2 ≤ ((m_impl_jobsOf list some_).length : Int) ∧ ((m_impl_jobsOf list some_).length : Int) ≤ x1.2) (fun x1 => (((m_impl_jobsOf list some_).length : Int) - x1.2 : Int).toNat) (fun x1 => ⟨[(8, some (true, .int .i64 x1.1)), (23, some (true, .os 201 (m_impl_jobsOf list some_).length)), (24, some (true, .int .i64 ((m_impl_jobsOf list some_).length : Int))), (25, some (true, .int .i64 x1.2))], [(201, some (.row 66 4 ((m_impl_jobsOf list some_).map gJob.v)))]⟩) (fun x1 => ⟨[(8, some (true, .int .i64 x1.1))], []⟩) ⟨by omega, by omega⟩ (by omega) (sub_of [] ⟨rfl, rfl, rfl, rfl, trivial⟩ ⟨rfl, trivial⟩ rfl) ?_ ?_
      · intro x1 i9
        obtain ⟨e10, e11, e12⟩ := i9
        try dsimp only at *
        refine run_seq ?_
        refine run_region (q_move .n (.t rfl) rfl <|
            q_assign .n (.t rfl) rfl <|
            q_assign .n (.c rfl) rfl <|
            Lex.nil) ?_
        exact run_ret [] (.cons (.t rfl rfl) (.cons (.t rfl rfl) .nil)) rfl trivial rfl
      · intro rec1 k1 hk6 x1 i7
        obtain ⟨e13, e14⟩ := i7
        try dsimp only at *
        refine run_seq ?_
        refine run_region (q_int .n (.t rfl) (.t rfl) rfl rfl <|
            Lex.nil) ?_
        refine run_seq ?_
        refine run_cond (.t rfl) rfl (fun h8 => ?_) (fun h8 => ?_)
        · try simp only [Bool.and_eq_true, Bool.or_eq_true, Bool.not_eq_true', Bool.and_eq_false_iff, Bool.or_eq_false_iff, Bool.not_eq_false', decide_eq_true_eq, decide_eq_false_iff_not, beq_iff_eq, bne_iff_ne, beq_eq_false_iff_ne, bne_eq_false_iff_eq, Bool.true_and, ne_eq, Decidable.not_not, Int.not_lt, Int.not_le, Nat.not_lt, Nat.not_le, strB_nil, strB_nil', strB_nnil, strB_nnil'] at h8
          refine run_skip ?_
          refine run_seq ?_
          refine run_block ?_
          refine run_seq ?_
          refine run_region (q_idx_ow .n (.t rfl) (.t rfl) sl_36 (fun _ => by omega) rfl <|
              q_ldN_row .n (.t rfl) rfl (fun _ => by omega) rfl ag_66 rfl rfl rfl <|
              q_alloc (l := 202) .n rfl zv_66 rfl rfl <|
              q_st_boxm [.str (at' (m_impl_jobsOf list some_) x1.2).Id, .int .i64 (at' (m_impl_jobsOf list some_) x1.2).Airway, .int .i64 (at' (m_impl_jobsOf list some_) x1.2).People, .int .i64 (at' (m_impl_jobsOf list some_) x1.2).Power] .n rfl (.t rfl) (.t rfl) rfl ts_66 rfl rfl <|
              Lex.nil) ?_
          refine run_region (q_move .n (.t rfl) rfl <|
              q_fld_ow .n (.t rfl) fo_66_2 rfl <|
              q_ld1_ow .n (.t rfl) rfl (.inr rfl) (fun _ => rfl) rfl ic_2 rfl <|
              q_int .n (.t rfl) (.t rfl) rfl rfl <|
              q_assign .n (.t rfl) rfl <|
              Lex.nil) ?_
          refine run_endB ?_
          refine run_region (q_add .n (.t rfl) (.c rfl) (fun _ => by omega) rfl <|
              q_move .n (.t rfl) rfl <|
              Lex.nil) ?_
          exact run_again (IntKind.wrap .i64 (x1.1 + (at' (m_impl_jobsOf list some_) x1.2).People), x1.2 + 1) ⟨by omega, by omega⟩ (by omega) (sub_of [] ⟨rfl, rfl, rfl, rfl, trivial⟩ ⟨rfl, trivial⟩ rfl)
        · try simp only [Bool.and_eq_true, Bool.or_eq_true, Bool.not_eq_true', Bool.and_eq_false_iff, Bool.or_eq_false_iff, Bool.not_eq_false', decide_eq_true_eq, decide_eq_false_iff_not, beq_iff_eq, bne_iff_ne, beq_eq_false_iff_ne, bne_eq_false_iff_eq, Bool.true_and, ne_eq, Decidable.not_not, Int.not_lt, Int.not_le, Nat.not_lt, Nat.not_le, strB_nil, strB_nil', strB_nnil, strB_nnil'] at h8
          refine run_exit rfl ?_
          exact run_cont hk6 (x1.1, x1.2) ⟨by omega, by omega, by omega⟩ (sub_of [] ⟨rfl, trivial⟩ trivial rfl)

/-! ### impl_ShiftFits -/
theorem c_impl_ShiftFits (m_ : gMine) (flows : List Int) (list : List gJob) (some_ : List Int) (hp1 : some_.length ≤ 1048576) : Con Try.prog 39 [.st [.int .i64 m_.Junctions, .sl 7 (m_.Airways.map gAirway.v)], .sl 1 (flows.map (V.int .i64)), .sl 4 (list.map gJob.v), .sl 1 (some_.map (V.int .i64))] [] (.bool (m_impl_ShiftFits m_ flows list some_)) ([]) := by
  refine con_intro (out := fun r : Bool => ((.bool r : V), ([] : List (Nat × Option O)))) (r := (m_impl_ShiftFits m_ flows list some_)) Try.func39 rfl Try.ntmps39 rfl ?_
  refine run_factS (t := 0) 1 rfl rfl fun hl => ?_
  have l1 := hl; clear hl; simp only [List.length_map] at l1
  refine run_fact (t := 1) rfl fun hl => ?_
  have l2 := hl; clear hl; simp only [List.length_map] at l2
  refine run_fact (t := 2) rfl fun hl => ?_
  have l3 := hl; clear hl; simp only [List.length_map] at l3
  refine run_fact (t := 3) rfl fun hl => ?_
  have l4 := hl; clear hl; simp only [List.length_map] at l4
  refine run_seq ?_
  refine run_region (q_box (l := 200) .n rfl (.t rfl) rfl rfl rfl rfl <|
      q_assign .n (.c rfl) rfl <|
      Lex.nil) ?_
  refine run_seq ?_
  refine run_draw fmo (q_ldN_ow .n (.t rfl) rfl (.inr rfl) ag_33 (fun _ => rfl) rfl rfl <|
      q_move .n (.t rfl) rfl <|
      q_move .n (.t rfl) rfl <|
      q_call0 (full := false) .n .f en_47 (.cons (.t rfl) (.cons (.t rfl) (.cons (.t rfl) .nil))) (.cons (.sts rfl) (.cons (.b (.a (.same rfl))) (.cons (.b (.a (.same rfl))) .nil))) (fun hg => c_impl_jobsCode m_ flows list) rfl (fun h => Bool.noConfusion h) rfl <|
      q_int .n (.t rfl) (.c rfl) rfl rfl <|
      q_move .n (.t rfl) rfl <|
      q_move (.t rfl rfl) (.t rfl) rfl <|
      q_move (.t rfl rfl) (.t rfl) rfl <|
      q_call0 (full := false) (.t rfl rfl) .f en_80 (.cons (.u rfl id) (.cons (.u rfl id) .nil)) (.cons (.b (.a (.same rfl))) (.cons (.b (.a (.same rfl))) .nil)) (fun hg => c_impl_someOk list some_) rfl (fun h => Bool.noConfusion h) rfl <|
      q_and .n (.t rfl) (.u rfl id) rfl <|
      q_move .n (.t rfl) rfl <|
      q_ldN_ow (.t rfl rfl) (.t rfl) rfl (.inr rfl) ag_33 (fun _ => rfl) rfl rfl <|
      q_move (.t rfl rfl) (.t rfl) rfl <|
      q_move (.t rfl rfl) (.t rfl) rfl <|
      q_move (.t rfl rfl) (.t rfl) rfl <|
      q_callG (full := false) (m' := (bif (((m_impl_jobsCode m_ flows list) == 0) && (m_impl_someOk list some_)) then m_impl_jobsOf list some_ else []).length) (es' := ((bif (((m_impl_jobsCode m_ flows list) == 0) && (m_impl_someOk list some_)) then m_impl_jobsOf list some_ else []).map gJob.v)) (l := 201) (.t rfl rfl) (fun hg => .f) en_81 (fun hg => (.cons (.u rfl (fun _ => id hg)) (.cons (.u rfl (fun _ => id hg)) .nil))) (.cons (.b (.a (.same rfl))) (.cons (.b (.a (.same rfl))) .nil)) (fun hg => c_impl_jobsOf list some_ (by simp only [Bool.and_eq_true, Bool.or_eq_true, Bool.not_eq_true', Bool.and_eq_false_iff, Bool.or_eq_false_iff, Bool.not_eq_false', decide_eq_true_eq, decide_eq_false_iff_not, beq_iff_eq, bne_iff_ne, beq_eq_false_iff_ne, bne_eq_false_iff_eq, Bool.true_and, ne_eq, Decidable.not_not, Int.not_lt, Int.not_le, Nat.not_lt, Nat.not_le, strB_nil, strB_nil', strB_nnil, strB_nnil'] at hg; (exact someOk_in hg.2)) (by simp only [Bool.and_eq_true, Bool.or_eq_true, Bool.not_eq_true', Bool.and_eq_false_iff, Bool.or_eq_false_iff, Bool.not_eq_false', decide_eq_true_eq, decide_eq_false_iff_not, beq_iff_eq, bne_iff_ne, beq_eq_false_iff_ne, bne_eq_false_iff_eq, Bool.true_and, ne_eq, Decidable.not_not, Int.not_lt, Int.not_le, Nat.not_lt, Nat.not_le, strB_nil, strB_nil', strB_nnil, strB_nnil'] at hg; omega)) rfl (fun h => Bool.noConfusion h) rfl (fun hg => by simp only [Bool.true_and] at hg; rw [hg]; rfl) (fun hg => by simp only [Bool.true_and] at hg; rw [hg]; rfl) <|
      q_call0 (full := true) (.t rfl rfl) .f en_58 (.cons (.u rfl id) (.cons (.u rfl id) (.cons (.u rfl id) .nil))) (.cons (.sts rfl) (.cons (.b (.a (.same rfl))) (.cons (.b (.a (.own rfl rfl rfl (take_all (by simp only [len_map, put_len] <;> rfl)) (by simp only [len_map, put_len] <;> rfl)))) .nil))) (fun hg => c_impl_Mine_fitJobs m_ flows (bif (((m_impl_jobsCode m_ flows list) == 0) && (m_impl_someOk list some_)) then m_impl_jobsOf list some_ else []) (by simp only [Bool.and_eq_true, Bool.or_eq_true, Bool.not_eq_true', Bool.and_eq_false_iff, Bool.or_eq_false_iff, Bool.not_eq_false', decide_eq_true_eq, decide_eq_false_iff_not, beq_iff_eq, bne_iff_ne, beq_eq_false_iff_ne, bne_eq_false_iff_eq, Bool.true_and, ne_eq, Decidable.not_not, Int.not_lt, Int.not_le, Nat.not_lt, Nat.not_le, strB_nil, strB_nil', strB_nnil, strB_nnil'] at hg; (exact jobsCode_impM hg.1)) (by simp only [Bool.and_eq_true, Bool.or_eq_true, Bool.not_eq_true', Bool.and_eq_false_iff, Bool.or_eq_false_iff, Bool.not_eq_false', decide_eq_true_eq, decide_eq_false_iff_not, beq_iff_eq, bne_iff_ne, beq_eq_false_iff_ne, bne_eq_false_iff_eq, Bool.true_and, ne_eq, Decidable.not_not, Int.not_lt, Int.not_le, Nat.not_lt, Nat.not_le, strB_nil, strB_nil', strB_nnil, strB_nnil'] at hg; (exact jobsCode_impF hg.1)) (by simp only [Bool.and_eq_true, Bool.or_eq_true, Bool.not_eq_true', Bool.and_eq_false_iff, Bool.or_eq_false_iff, Bool.not_eq_false', decide_eq_true_eq, decide_eq_false_iff_not, beq_iff_eq, bne_iff_ne, beq_eq_false_iff_ne, bne_eq_false_iff_eq, Bool.true_and, ne_eq, Decidable.not_not, Int.not_lt, Int.not_le, Nat.not_lt, Nat.not_le, strB_nil, strB_nil', strB_nnil, strB_nnil'] at hg; (exact bif_all (jobsOf_all (jobsCode_impS hg.1).air (someOk_in hg.2))))) rfl (fun _ => rfl) rfl <|
      q_and .n (.t rfl) (.u rfl id) rfl <|
      q_assign .n (.t rfl) rfl <|
      Lex.nil) (by kernel_rfl) ?_
  exact run_ret [] (.cons (.t rfl rfl) .nil) rfl trivial rfl

/-! ### laws_FnCrews -/
set_option maxRecDepth 100000 in
set_option maxHeartbeats 4000000 in
theorem c_laws_FnCrews (code : List Int) (more : List Int) (hp1 : code.length ≤ 9223372036854775807 ∧ ∀ y ∈ code, 0 ≤ y ∧ y ≤ 255) (hp2 : more.length ≤ 9223372036854775807 ∧ ∀ y ∈ more, 0 ≤ y ∧ y ≤ 255) : Con Try.prog 6 [.sl 1 (code.map (V.int .u8)), .sl 1 (more.map (V.int .u8))] [] (.bool (m_laws_FnCrews code more)) ([]) := by
  refine con_intro (out := fun r : Bool => ((.bool r : V), ([] : List (Nat × Option O)))) (r := (m_laws_FnCrews code more)) Try.func6 rfl Try.ntmps6 rfl ?_
  have hA24 := (r8mine_in hp1.2).2.1
  have hJ8 := (@r8jobs more (m_spec_R8Mine code)).2
  have hN24 := @airneeds_len (m_spec_R8Mine code) (m_spec_R8Jobs more (m_spec_R8Mine code))
  refine run_fact (t := 0) rfl fun hl => ?_
  have l1 := hl; clear hl; simp only [List.length_map] at l1
  refine run_fact (t := 1) rfl fun hl => ?_
  have l2 := hl; clear hl; simp only [List.length_map] at l2
  refine run_seq ?_
  refine run_region (q_assign .n (.c rfl) rfl <|
      Lex.nil) ?_
  refine run_seq ?_
  refine run_seq ?_
  refine run_region (q_move .n (.t rfl) rfl <|
      q_move .n (.t rfl) rfl <|
      q_call0 (full := false) .n .f en_29 (.cons (.t rfl) (.cons (.t rfl) .nil)) (.cons (.b (.a (.same rfl))) (.cons (.b (.a (.same rfl))) .nil)) (fun hg => c_laws_r8Long code more) rfl (fun h => Bool.noConfusion h) rfl <|
      Lex.nil) ?_
  refine run_cond (.t rfl) rfl (fun h3 => ?_) (fun h3 => ?_)
  · try simp only [Bool.and_eq_true, Bool.or_eq_true, Bool.not_eq_true', Bool.and_eq_false_iff, Bool.or_eq_false_iff, Bool.not_eq_false', decide_eq_true_eq, decide_eq_false_iff_not, beq_iff_eq, bne_iff_ne, beq_eq_false_iff_ne, bne_eq_false_iff_eq, Bool.true_and, ne_eq, Decidable.not_not, Int.not_lt, Int.not_le, Nat.not_lt, Nat.not_le, strB_nil, strB_nil', strB_nnil, strB_nnil'] at h3
    refine run_seq ?_
    refine run_region (q_assign .n (.c rfl) rfl <|
        Lex.nil) ?_
    exact run_ret [] (.cons (.t rfl rfl) .nil) rfl trivial rfl
  · try simp only [Bool.and_eq_true, Bool.or_eq_true, Bool.not_eq_true', Bool.and_eq_false_iff, Bool.or_eq_false_iff, Bool.not_eq_false', decide_eq_true_eq, decide_eq_false_iff_not, beq_iff_eq, bne_iff_ne, beq_eq_false_iff_ne, bne_eq_false_iff_eq, Bool.true_and, ne_eq, Decidable.not_not, Int.not_lt, Int.not_le, Nat.not_lt, Nat.not_le, strB_nil, strB_nil', strB_nnil, strB_nnil'] at h3
    refine run_skip ?_
    refine run_seq ?_
    refine run_region (q_move .n (.t rfl) rfl <|
        q_callM (full := false) [] [(100, 200)] .n rfl .f en_30 (.cons (.t rfl) .nil) (.cons (.b (.a (.same rfl))) .nil) (c_spec_R8Mine code (by (exact hp1.2))) trivial rfl rfl (fun h => Bool.noConfusion h) (fun h => Bool.noConfusion h) rfl <|
        q_alloc (l := 201) .n rfl zv_33 rfl rfl <|
        q_st_boxm [.int .i64 (m_spec_R8Mine code).Junctions, .os 200 (m_spec_R8Mine code).Airways.length] .n rfl (.t rfl) (.t rfl) rfl ts_33 rfl rfl <|
        Lex.nil) ?_
    refine run_seq ?_
    refine run_region (q_move .n (.t rfl) rfl <|
        q_ldN_ow .n (.t rfl) rfl (.inr rfl) ag_33 (fun _ => rfl) rfl rfl <|
        q_callM (full := true) [] [(100, 202)] .n rfl .f en_31 (.cons (.t rfl) (.cons (.t rfl) .nil)) (.cons (.b (.a (.same rfl))) (.cons (.st (.cons (.a (.same rfl)) (.cons (.a (.own rfl rfl rfl (take_all (by simp only [len_map, put_len] <;> rfl)) (by simp only [len_map, put_len] <;> rfl))) .nil))) .nil)) (c_spec_R8Jobs more (m_spec_R8Mine code) (by (exact hp2.2))) trivial rfl rfl (fun _ => rfl) (fun _ => (hr_row (fun _ => rfl) hr_nil)) rfl <|
        q_assign .n (.t rfl) rfl <|
        Lex.nil) ?_
    refine run_seq ?_
    refine run_region (q_bslicem ([] : List Int) (f := V.int .i64) (l := 203) .n rfl rfl .nil rfl si_25 zv_2 rfl rfl rfl <|
        q_assign .n (.t rfl) rfl <|
        Lex.nil) ?_
    refine run_seq ?_
    refine run_seq ?_
    refine run_region (q_assign .n (.c rfl) rfl <|
        Lex.nil) ?_
    refine run_block ?_
    refine run_LOOP (m_laws_FnCrews_b1 code more) _ _ _ rfl (fun (x1 : (List Int) × Int) => 0 ≤ x1.2 ∧ x1.2 ≤ ((m_spec_R8Mine code).Airways.length : Int) ∧ (x1.1.length : Int) + 0 ≤ x1.2 + (([] : List Int).length : Int) ∧ (x1.1.length : Int) = x1.2) (fun x1 => 0 ≤ x1.2 ∧ x1.2 ≤ ((m_spec_R8Mine code).Airways.length : Int) ∧ (x1.1.length : Int) + 0 ≤ x1.2 + (([] : List Int).length : Int) ∧ (x1.1.length : Int) = x1.2 ∧ ((m_spec_R8Mine code).Airways.length : Int) ≤ x1.2) (fun x1 => (((m_spec_R8Mine code).Airways.length : Int) - x1.2 : Int).toNat) (fun x1 => ⟨[(1, some (true, .sl 1 (more.map (V.int .u8)))), (5, some (true, .op 201 0 0 0)), (6, some (true, .os 202 (m_spec_R8Jobs more (m_spec_R8Mine code)).length)), (7, some (true, .os 203 x1.1.length)), (8, some (true, .int .i64 x1.2))], [(200, some (.row 127 7 ((m_spec_R8Mine code).Airways.map gAirway.v))), (201, some (.box 33 [.int .i64 (m_spec_R8Mine code).Junctions, .os 200 (m_spec_R8Mine code).Airways.length])), (202, some (.row 66 4 ((m_spec_R8Jobs more (m_spec_R8Mine code)).map gJob.v))), (203, some (.row 2 1 (x1.1.map (V.int .i64))))]⟩) (fun x1 => ⟨[(5, some (true, .op 201 0 0 0)), (6, some (true, .os 202 (m_spec_R8Jobs more (m_spec_R8Mine code)).length)), (7, some (true, .os 203 x1.1.length))], [(200, some (.row 127 7 ((m_spec_R8Mine code).Airways.map gAirway.v))), (201, some (.box 33 [.int .i64 (m_spec_R8Mine code).Junctions, .os 200 (m_spec_R8Mine code).Airways.length])), (202, some (.row 66 4 ((m_spec_R8Jobs more (m_spec_R8Mine code)).map gJob.v))), (203, some (.row 2 1 (x1.1.map (V.int .i64))))]⟩) ⟨by omega, by omega, by (simp only [List.length_append, List.length_cons, List.length_nil, List.length_replicate, put_len] at * <;> omega), by (simp only [List.length_append, List.length_cons, List.length_nil, List.length_replicate, put_len] at * <;> omega)⟩ (by omega) (sub_of [] ⟨rfl, rfl, rfl, rfl, rfl, trivial⟩ ⟨rfl, rfl, rfl, rfl, trivial⟩ rfl) ?_ ?_
    · intro x1 i7
      obtain ⟨e65, e66, e67, e68, e69⟩ := i7
      try dsimp only at *
      refine run_seq ?_
      refine run_region (q_ldN_ow .n (.t rfl) rfl (.inr rfl) ag_33 (fun _ => rfl) rfl rfl <|
          q_move .n (.t rfl) rfl <|
          q_move .n (.t rfl) rfl <|
          q_callM (full := true) [] [(100, 206)] .n rfl .f en_22 (.cons (.t rfl) (.cons (.t rfl) (.cons (.t rfl) (.cons (.c rfl) .nil)))) (.cons (.st (.cons (.a (.same rfl)) (.cons (.a (.own rfl rfl rfl (take_all (by simp only [len_map, put_len] <;> rfl)) (by simp only [len_map, put_len] <;> rfl))) .nil))) (.cons (.b (.a (.own rfl rfl rfl (take_all (by simp only [len_map, put_len] <;> rfl)) (by simp only [len_map, put_len] <;> rfl)))) (.cons (.b (.a (.own rfl rfl rfl (take_all (by simp only [len_map, put_len] <;> rfl)) (by simp only [len_map, put_len] <;> rfl)))) (.cons (.b (.a (.same rfl))) .nil)))) (c_impl_FewestShifts (m_spec_R8Mine code) x1.1 (m_spec_R8Jobs more (m_spec_R8Mine code)) 3000) trivial rfl rfl (fun _ => rfl) (fun _ => (hr_row (fun _ => rfl) hr_nil)) rfl <|
          q_move .n (.t rfl) rfl <|
          q_ext .n (.t rfl) rfl rfl rfl <|
          q_ext .n (.t rfl) rfl rfl rfl <|
          q_ext .n (.t rfl) rfl rfl rfl <|
          q_assign .n (.t rfl) rfl <|
          q_assign .n (.t rfl) rfl <|
          q_assign .n (.t rfl) rfl <|
          Lex.nil) ?_
      refine run_seq ?_
      refine run_region (q_ldN_ow .n (.t rfl) rfl (.inr rfl) ag_33 (fun _ => rfl) rfl rfl <|
          q_move .n (.t rfl) rfl <|
          q_move .n (.t rfl) rfl <|
          q_callM (full := true) [] [(100, 207)] .n rfl .f en_13 (.cons (.t rfl) (.cons (.t rfl) (.cons (.t rfl) (.cons (.c rfl) .nil)))) (.cons (.st (.cons (.a (.same rfl)) (.cons (.a (.own rfl rfl rfl (take_all (by simp only [len_map, put_len] <;> rfl)) (by simp only [len_map, put_len] <;> rfl))) .nil))) (.cons (.b (.a (.own rfl rfl rfl (take_all (by simp only [len_map, put_len] <;> rfl)) (by simp only [len_map, put_len] <;> rfl)))) (.cons (.b (.a (.own rfl rfl rfl (take_all (by simp only [len_map, put_len] <;> rfl)) (by simp only [len_map, put_len] <;> rfl)))) (.cons (.b (.a (.same rfl))) .nil)))) (c_impl_MostJobs (m_spec_R8Mine code) x1.1 (m_spec_R8Jobs more (m_spec_R8Mine code)) 3000) trivial rfl rfl (fun _ => rfl) (fun _ => (hr_row (fun _ => rfl) hr_nil)) rfl <|
          q_move .n (.t rfl) rfl <|
          q_ext .n (.t rfl) rfl rfl rfl <|
          q_ext .n (.t rfl) rfl rfl rfl <|
          q_assign .n (.t rfl) rfl <|
          q_assign .n (.t rfl) rfl <|
          Lex.nil) ?_
      refine run_seq ?_
      refine run_region (q_ldN_ow .n (.t rfl) rfl (.inr rfl) ag_33 (fun _ => rfl) rfl rfl <|
          q_move .n (.t rfl) rfl <|
          q_callM (full := true) [] [(100, 208)] .n rfl .f en_33 (.cons (.t rfl) (.cons (.t rfl) .nil)) (.cons (.st (.cons (.a (.same rfl)) (.cons (.a (.own rfl rfl rfl (take_all (by simp only [len_map, put_len] <;> rfl)) (by simp only [len_map, put_len] <;> rfl))) .nil))) (.cons (.b (.a (.own rfl rfl rfl (take_all (by simp only [len_map, put_len] <;> rfl)) (by simp only [len_map, put_len] <;> rfl)))) .nil)) (c_impl_AirNeeds (m_spec_R8Mine code) (m_spec_R8Jobs more (m_spec_R8Mine code))) trivial rfl rfl (fun _ => rfl) (fun _ => (hr_row (fun _ => rfl) hr_nil)) rfl <|
          q_move .n (.t rfl) rfl <|
          q_ext .n (.t rfl) rfl rfl rfl <|
          q_ext .n (.t rfl) rfl rfl rfl <|
          q_assign .n (.t rfl) rfl <|
          q_assign .n (.t rfl) rfl <|
          Lex.nil) ?_
      refine run_seq ?_
      refine run_region (q_ldN_ow .n (.t rfl) rfl (.inr rfl) ag_33 (fun _ => rfl) rfl rfl <|
          q_move .n (.t rfl) rfl <|
          q_move .n (.t rfl) rfl <|
          q_callM (full := true) [] [(100, 209)] .n rfl .f en_34 (.cons (.t rfl) (.cons (.t rfl) (.cons (.t rfl) .nil))) (.cons (.st (.cons (.a (.same rfl)) (.cons (.a (.own rfl rfl rfl (take_all (by simp only [len_map, put_len] <;> rfl)) (by simp only [len_map, put_len] <;> rfl))) .nil))) (.cons (.b (.a (.own rfl rfl rfl (take_all (by simp only [len_map, put_len] <;> rfl)) (by simp only [len_map, put_len] <;> rfl)))) (.cons (.b (.a (.own rfl rfl rfl (take_all (by simp only [len_map, put_len] <;> rfl)) (by simp only [len_map, put_len] <;> rfl)))) .nil))) (c_impl_ShortAirways (m_spec_R8Mine code) x1.1 (m_spec_R8Jobs more (m_spec_R8Mine code))) trivial rfl rfl (fun _ => rfl) (fun _ => (hr_row (fun _ => rfl) hr_nil)) rfl <|
          q_move .n (.t rfl) rfl <|
          q_ext .n (.t rfl) rfl rfl rfl <|
          q_ext .n (.t rfl) rfl rfl rfl <|
          q_assign .n (.t rfl) rfl <|
          q_assign .n (.t rfl) rfl <|
          Lex.nil) ?_
      refine run_seq ?_
      refine run_seq ?_
      refine run_region (q_move .n (.t rfl) rfl <|
          q_int .n (.t rfl) (.c rfl) rfl rfl <|
          q_move .n (.t rfl) rfl <|
          q_move (.t rfl rfl) (.t rfl) rfl <|
          q_int (.t rfl rfl) (.u rfl id) (.c rfl) rfl rfl <|
          q_and .n (.t rfl) (.u rfl id) rfl <|
          q_move .n (.t rfl) rfl <|
          q_move (.t rfl rfl) (.t rfl) rfl <|
          q_int (.t rfl rfl) (.u rfl id) (.c rfl) rfl rfl <|
          q_and .n (.t rfl) (.u rfl id) rfl <|
          q_move .n (.t rfl) rfl <|
          q_move (.f rfl rfl) (.t rfl) rfl <|
          q_int (.f rfl rfl) (.u rfl id) (.c rfl) rfl rfl <|
          q_or .n (.t rfl) (.u rfl id) rfl <|
          q_move .n (.t rfl) rfl <|
          q_ldN_ow (.f rfl rfl) (.t rfl) rfl (.inr rfl) ag_33 (fun _ => rfl) rfl rfl <|
          q_move (.f rfl rfl) (.t rfl) rfl <|
          q_move (.f rfl rfl) (.t rfl) rfl <|
          q_move (.f rfl rfl) (.t rfl) rfl <|
          q_call0 (full := true) (.f rfl rfl) .f en_35 (.cons (.u rfl id) (.cons (.u rfl id) (.cons (.u rfl id) (.cons (.u rfl id) .nil)))) (.cons (.st (.cons (.a (.same rfl)) (.cons (.a (.own rfl rfl rfl (take_all (by simp only [len_map, put_len] <;> rfl)) (by simp only [len_map, put_len] <;> rfl))) .nil))) (.cons (.b (.a (.own rfl rfl rfl (take_all (by simp only [len_map, put_len] <;> rfl)) (by simp only [len_map, put_len] <;> rfl)))) (.cons (.b (.a (.own rfl rfl rfl (take_all (by simp only [len_map, put_len] <;> rfl)) (by simp only [len_map, put_len] <;> rfl)))) (.cons (.b (.a (.own rfl rfl rfl (take_all (by simp only [len_map, put_len] <;> rfl)) (by simp only [len_map, put_len] <;> rfl)))) .nil)))) (fun hg => c_spec_ShiftFits (m_spec_R8Mine code) x1.1 (m_spec_R8Jobs more (m_spec_R8Mine code)) (m_impl_MostJobs (m_spec_R8Mine code) x1.1 (m_spec_R8Jobs more (m_spec_R8Mine code)) 3000).1) rfl (fun _ => rfl) rfl <|
          q_not (.f rfl rfl) (.u rfl id) rfl <|
          q_or .n (.t rfl) (.u rfl id) rfl <|
          q_move .n (.t rfl) rfl <|
          q_move (.f rfl rfl) (.t rfl) rfl <|
          q_int (.f rfl rfl) (.u rfl id) (.c rfl) rfl rfl <|
          q_or .n (.t rfl) (.u rfl id) rfl <|
          q_move .n (.t rfl) rfl <|
          q_move (.f rfl rfl) (.t rfl) rfl <|
          q_len (.f rfl rfl) (.u rfl id) rfl rfl ss_25 rfl <|
          q_move (.f rfl rfl) (.t rfl) rfl <|
          q_len (.f rfl rfl) (.u rfl id) rfl rfl ss_25 rfl <|
          q_int (.f rfl rfl) (.u rfl id) (.u rfl id) rfl rfl <|
          q_or .n (.t rfl) (.u rfl id) rfl <|
          q_move .n (.t rfl) rfl <|
          q_move (.f rfl rfl) (.t rfl) rfl <|
          q_int (.f rfl rfl) (.u rfl id) (.c rfl) rfl rfl <|
          q_or .n (.t rfl) (.u rfl id) rfl <|
          Lex.nil) ?_
      refine run_cond (.t rfl) rfl (fun h8 => ?_) (fun h8 => ?_)
      · try simp only [Bool.and_eq_true, Bool.or_eq_true, Bool.not_eq_true', Bool.and_eq_false_iff, Bool.or_eq_false_iff, Bool.not_eq_false', decide_eq_true_eq, decide_eq_false_iff_not, beq_iff_eq, bne_iff_ne, beq_eq_false_iff_ne, bne_eq_false_iff_eq, Bool.true_and, ne_eq, Decidable.not_not, Int.not_lt, Int.not_le, Nat.not_lt, Nat.not_le, strB_nil, strB_nil', strB_nnil, strB_nnil'] at h8
        refine run_seq ?_
        refine run_region (q_assign .n (.c rfl) rfl <|
            Lex.nil) ?_
        exact run_ret [] (.cons (.t rfl rfl) .nil) rfl trivial rfl
      · try simp only [Bool.and_eq_true, Bool.or_eq_true, Bool.not_eq_true', Bool.and_eq_false_iff, Bool.or_eq_false_iff, Bool.not_eq_false', decide_eq_true_eq, decide_eq_false_iff_not, beq_iff_eq, bne_iff_ne, beq_eq_false_iff_ne, bne_eq_false_iff_eq, Bool.true_and, ne_eq, Decidable.not_not, Int.not_lt, Int.not_le, Nat.not_lt, Nat.not_le, strB_nil, strB_nil', strB_nnil, strB_nnil'] at h8
        refine run_skip ?_
        refine run_seq ?_
        refine run_region (q_assign .n (.c rfl) rfl <|
            Lex.nil) ?_
        refine run_seq ?_
        refine run_seq ?_
        refine run_region (q_assign .n (.c rfl) rfl <|
            Lex.nil) ?_
        refine run_block ?_
        refine run_LOOP (m_laws_FnCrews_b2 code more x1) _ _ _ rfl (fun (x2 : Int × Int) => 0 ≤ x2.2 ∧ x2.2 ≤ ((m_spec_R8Jobs more (m_spec_R8Mine code)).length : Int)) (fun x2 => 0 ≤ x2.2 ∧ x2.2 ≤ ((m_spec_R8Jobs more (m_spec_R8Mine code)).length : Int) ∧ ((m_spec_R8Jobs more (m_spec_R8Mine code)).length : Int) ≤ x2.2) (fun x2 => (((m_spec_R8Jobs more (m_spec_R8Mine code)).length : Int) - x2.2 : Int).toNat) (fun x2 => ⟨[(5, some (true, .op 201 0 0 0)), (6, some (true, .os 202 (m_spec_R8Jobs more (m_spec_R8Mine code)).length)), (7, some (true, .os 203 x1.1.length)), (9, some (true, .os 206 (m_impl_FewestShifts (m_spec_R8Mine code) x1.1 (m_spec_R8Jobs more (m_spec_R8Mine code)) 3000).1.length)), (10, some (true, .int .i64 (m_impl_FewestShifts (m_spec_R8Mine code) x1.1 (m_spec_R8Jobs more (m_spec_R8Mine code)) 3000).2.1)), (11, some (true, .int .i64 (m_impl_FewestShifts (m_spec_R8Mine code) x1.1 (m_spec_R8Jobs more (m_spec_R8Mine code)) 3000).2.2)), (12, some (true, .os 207 (m_impl_MostJobs (m_spec_R8Mine code) x1.1 (m_spec_R8Jobs more (m_spec_R8Mine code)) 3000).1.length)), (14, some (true, .os 208 (m_impl_AirNeeds (m_spec_R8Mine code) (m_spec_R8Jobs more (m_spec_R8Mine code))).1.length)), (16, some (true, .os 209 (m_impl_ShortAirways (m_spec_R8Mine code) x1.1 (m_spec_R8Jobs more (m_spec_R8Mine code))).1.length)), (18, some (true, .int .i64 x2.1)), (19, some (true, .int .i64 x2.2))], [(200, some (.row 127 7 ((m_spec_R8Mine code).Airways.map gAirway.v))), (201, some (.box 33 [.int .i64 (m_spec_R8Mine code).Junctions, .os 200 (m_spec_R8Mine code).Airways.length])), (202, some (.row 66 4 ((m_spec_R8Jobs more (m_spec_R8Mine code)).map gJob.v))), (203, some (.row 2 1 (x1.1.map (V.int .i64)))), (206, some (.row 2 1 ((m_impl_FewestShifts (m_spec_R8Mine code) x1.1 (m_spec_R8Jobs more (m_spec_R8Mine code)) 3000).1.map (V.int .i64)))), (207, some (.row 2 1 ((m_impl_MostJobs (m_spec_R8Mine code) x1.1 (m_spec_R8Jobs more (m_spec_R8Mine code)) 3000).1.map (V.int .i64)))), (208, some (.row 2 1 ((m_impl_AirNeeds (m_spec_R8Mine code) (m_spec_R8Jobs more (m_spec_R8Mine code))).1.map (V.int .i64)))), (209, some (.row 2 1 ((m_impl_ShortAirways (m_spec_R8Mine code) x1.1 (m_spec_R8Jobs more (m_spec_R8Mine code))).1.map (V.int .i64))))]⟩) (fun x2 => ⟨[(5, some (true, .op 201 0 0 0)), (6, some (true, .os 202 (m_spec_R8Jobs more (m_spec_R8Mine code)).length)), (7, some (true, .os 203 x1.1.length)), (9, some (true, .os 206 (m_impl_FewestShifts (m_spec_R8Mine code) x1.1 (m_spec_R8Jobs more (m_spec_R8Mine code)) 3000).1.length)), (10, some (true, .int .i64 (m_impl_FewestShifts (m_spec_R8Mine code) x1.1 (m_spec_R8Jobs more (m_spec_R8Mine code)) 3000).2.1)), (11, some (true, .int .i64 (m_impl_FewestShifts (m_spec_R8Mine code) x1.1 (m_spec_R8Jobs more (m_spec_R8Mine code)) 3000).2.2)), (12, some (true, .os 207 (m_impl_MostJobs (m_spec_R8Mine code) x1.1 (m_spec_R8Jobs more (m_spec_R8Mine code)) 3000).1.length)), (14, some (true, .os 208 (m_impl_AirNeeds (m_spec_R8Mine code) (m_spec_R8Jobs more (m_spec_R8Mine code))).1.length)), (16, some (true, .os 209 (m_impl_ShortAirways (m_spec_R8Mine code) x1.1 (m_spec_R8Jobs more (m_spec_R8Mine code))).1.length)), (18, some (true, .int .i64 x2.1))], [(200, some (.row 127 7 ((m_spec_R8Mine code).Airways.map gAirway.v))), (201, some (.box 33 [.int .i64 (m_spec_R8Mine code).Junctions, .os 200 (m_spec_R8Mine code).Airways.length])), (202, some (.row 66 4 ((m_spec_R8Jobs more (m_spec_R8Mine code)).map gJob.v))), (203, some (.row 2 1 (x1.1.map (V.int .i64)))), (206, some (.row 2 1 ((m_impl_FewestShifts (m_spec_R8Mine code) x1.1 (m_spec_R8Jobs more (m_spec_R8Mine code)) 3000).1.map (V.int .i64)))), (207, some (.row 2 1 ((m_impl_MostJobs (m_spec_R8Mine code) x1.1 (m_spec_R8Jobs more (m_spec_R8Mine code)) 3000).1.map (V.int .i64)))), (208, some (.row 2 1 ((m_impl_AirNeeds (m_spec_R8Mine code) (m_spec_R8Jobs more (m_spec_R8Mine code))).1.map (V.int .i64)))), (209, some (.row 2 1 ((m_impl_ShortAirways (m_spec_R8Mine code) x1.1 (m_spec_R8Jobs more (m_spec_R8Mine code))).1.map (V.int .i64))))]⟩) ⟨by omega, by omega⟩ (by omega) (sub_of [] ⟨rfl, rfl, rfl, rfl, rfl, rfl, rfl, rfl, rfl, rfl, rfl, trivial⟩ ⟨rfl, rfl, rfl, rfl, rfl, rfl, rfl, rfl, trivial⟩ rfl) ?_ ?_
        · intro x2 i13
          obtain ⟨e60, e61, e62⟩ := i13
          try dsimp only at *
          refine run_seq ?_
          refine run_seq ?_
          refine run_region (q_assign .n (.c rfl) rfl <|
              Lex.nil) ?_
          refine run_block ?_
          refine run_LOOP (m_laws_FnCrews_b3 code more x1 x2) _ _ _ rfl (fun (x3 : Int × Int) => 0 ≤ x3.2 ∧ x3.2 ≤ ((m_impl_AirNeeds (m_spec_R8Mine code) (m_spec_R8Jobs more (m_spec_R8Mine code))).1.length : Int)) (fun x3 => 0 ≤ x3.2 ∧ x3.2 ≤ ((m_impl_AirNeeds (m_spec_R8Mine code) (m_spec_R8Jobs more (m_spec_R8Mine code))).1.length : Int) ∧ ((m_impl_AirNeeds (m_spec_R8Mine code) (m_spec_R8Jobs more (m_spec_R8Mine code))).1.length : Int) ≤ x3.2) (fun x3 => (((m_impl_AirNeeds (m_spec_R8Mine code) (m_spec_R8Jobs more (m_spec_R8Mine code))).1.length : Int) - x3.2 : Int).toNat) (fun x3 => ⟨[(5, some (true, .op 201 0 0 0)), (6, some (true, .os 202 (m_spec_R8Jobs more (m_spec_R8Mine code)).length)), (7, some (true, .os 203 x1.1.length)), (9, some (true, .os 206 (m_impl_FewestShifts (m_spec_R8Mine code) x1.1 (m_spec_R8Jobs more (m_spec_R8Mine code)) 3000).1.length)), (10, some (true, .int .i64 (m_impl_FewestShifts (m_spec_R8Mine code) x1.1 (m_spec_R8Jobs more (m_spec_R8Mine code)) 3000).2.1)), (11, some (true, .int .i64 (m_impl_FewestShifts (m_spec_R8Mine code) x1.1 (m_spec_R8Jobs more (m_spec_R8Mine code)) 3000).2.2)), (12, some (true, .os 207 (m_impl_MostJobs (m_spec_R8Mine code) x1.1 (m_spec_R8Jobs more (m_spec_R8Mine code)) 3000).1.length)), (14, some (true, .os 208 (m_impl_AirNeeds (m_spec_R8Mine code) (m_spec_R8Jobs more (m_spec_R8Mine code))).1.length)), (16, some (true, .os 209 (m_impl_ShortAirways (m_spec_R8Mine code) x1.1 (m_spec_R8Jobs more (m_spec_R8Mine code))).1.length)), (18, some (true, .int .i64 x3.1)), (22, some (true, .int .i64 x3.2))], [(200, some (.row 127 7 ((m_spec_R8Mine code).Airways.map gAirway.v))), (201, some (.box 33 [.int .i64 (m_spec_R8Mine code).Junctions, .os 200 (m_spec_R8Mine code).Airways.length])), (202, some (.row 66 4 ((m_spec_R8Jobs more (m_spec_R8Mine code)).map gJob.v))), (203, some (.row 2 1 (x1.1.map (V.int .i64)))), (206, some (.row 2 1 ((m_impl_FewestShifts (m_spec_R8Mine code) x1.1 (m_spec_R8Jobs more (m_spec_R8Mine code)) 3000).1.map (V.int .i64)))), (207, some (.row 2 1 ((m_impl_MostJobs (m_spec_R8Mine code) x1.1 (m_spec_R8Jobs more (m_spec_R8Mine code)) 3000).1.map (V.int .i64)))), (208, some (.row 2 1 ((m_impl_AirNeeds (m_spec_R8Mine code) (m_spec_R8Jobs more (m_spec_R8Mine code))).1.map (V.int .i64)))), (209, some (.row 2 1 ((m_impl_ShortAirways (m_spec_R8Mine code) x1.1 (m_spec_R8Jobs more (m_spec_R8Mine code))).1.map (V.int .i64))))]⟩) (fun x3 => ⟨[(5, some (true, .op 201 0 0 0)), (6, some (true, .os 202 (m_spec_R8Jobs more (m_spec_R8Mine code)).length)), (7, some (true, .os 203 x1.1.length)), (9, some (true, .os 206 (m_impl_FewestShifts (m_spec_R8Mine code) x1.1 (m_spec_R8Jobs more (m_spec_R8Mine code)) 3000).1.length)), (10, some (true, .int .i64 (m_impl_FewestShifts (m_spec_R8Mine code) x1.1 (m_spec_R8Jobs more (m_spec_R8Mine code)) 3000).2.1)), (11, some (true, .int .i64 (m_impl_FewestShifts (m_spec_R8Mine code) x1.1 (m_spec_R8Jobs more (m_spec_R8Mine code)) 3000).2.2)), (12, some (true, .os 207 (m_impl_MostJobs (m_spec_R8Mine code) x1.1 (m_spec_R8Jobs more (m_spec_R8Mine code)) 3000).1.length)), (16, some (true, .os 209 (m_impl_ShortAirways (m_spec_R8Mine code) x1.1 (m_spec_R8Jobs more (m_spec_R8Mine code))).1.length)), (18, some (true, .int .i64 x3.1))], [(200, some (.row 127 7 ((m_spec_R8Mine code).Airways.map gAirway.v))), (201, some (.box 33 [.int .i64 (m_spec_R8Mine code).Junctions, .os 200 (m_spec_R8Mine code).Airways.length])), (202, some (.row 66 4 ((m_spec_R8Jobs more (m_spec_R8Mine code)).map gJob.v))), (203, some (.row 2 1 (x1.1.map (V.int .i64)))), (206, some (.row 2 1 ((m_impl_FewestShifts (m_spec_R8Mine code) x1.1 (m_spec_R8Jobs more (m_spec_R8Mine code)) 3000).1.map (V.int .i64)))), (207, some (.row 2 1 ((m_impl_MostJobs (m_spec_R8Mine code) x1.1 (m_spec_R8Jobs more (m_spec_R8Mine code)) 3000).1.map (V.int .i64)))), (209, some (.row 2 1 ((m_impl_ShortAirways (m_spec_R8Mine code) x1.1 (m_spec_R8Jobs more (m_spec_R8Mine code))).1.map (V.int .i64))))]⟩) ⟨by omega, by omega⟩ (by omega) (sub_of [] ⟨rfl, rfl, rfl, rfl, rfl, rfl, rfl, rfl, rfl, rfl, rfl, trivial⟩ ⟨rfl, rfl, rfl, rfl, rfl, rfl, rfl, rfl, trivial⟩ rfl) ?_ ?_
          · intro x3 i18
            obtain ⟨e55, e56, e57⟩ := i18
            try dsimp only at *
            refine run_seq ?_
            refine run_seq ?_
            refine run_region (q_move .n (.t rfl) rfl <|
                q_int .n (.t rfl) (.c rfl) rfl rfl <|
                q_move .n (.t rfl) rfl <|
                q_move (.f rfl rfl) (.t rfl) rfl <|
                q_len (.f rfl rfl) (.u rfl id) rfl rfl ss_25 rfl <|
                q_int (.f rfl rfl) (.u rfl id) (.c rfl) rfl rfl <|
                q_move (.f rfl rfl) (.u rfl id) rfl <|
                q_move (.t rfl rfl) (.t rfl) rfl <|
                q_len (.t rfl rfl) (.u rfl id) rfl rfl ss_25 rfl <|
                q_move (.t rfl rfl) (.t rfl) rfl <|
                q_len (.t rfl rfl) (.u rfl id) rfl rfl ss_36 rfl <|
                q_int (.t rfl rfl) (.u rfl id) (.u rfl id) rfl rfl <|
                q_and (.f rfl rfl) (.u rfl id) (.u rfl id) rfl <|
                q_or .n (.t rfl) (.u rfl id) rfl <|
                Lex.nil) ?_
            refine run_cond (.t rfl) rfl (fun h19 => ?_) (fun h19 => ?_)
            · try simp only [Bool.and_eq_true, Bool.or_eq_true, Bool.not_eq_true', Bool.and_eq_false_iff, Bool.or_eq_false_iff, Bool.not_eq_false', decide_eq_true_eq, decide_eq_false_iff_not, beq_iff_eq, bne_iff_ne, beq_eq_false_iff_ne, bne_eq_false_iff_eq, Bool.true_and, ne_eq, Decidable.not_not, Int.not_lt, Int.not_le, Nat.not_lt, Nat.not_le, strB_nil, strB_nil', strB_nnil, strB_nnil'] at h19
              refine run_seq ?_
              refine run_region (q_assign .n (.c rfl) rfl <|
                  Lex.nil) ?_
              exact run_ret [] (.cons (.t rfl rfl) .nil) rfl trivial rfl
            · try simp only [Bool.and_eq_true, Bool.or_eq_true, Bool.not_eq_true', Bool.and_eq_false_iff, Bool.or_eq_false_iff, Bool.not_eq_false', decide_eq_true_eq, decide_eq_false_iff_not, beq_iff_eq, bne_iff_ne, beq_eq_false_iff_ne, bne_eq_false_iff_eq, Bool.true_and, ne_eq, Decidable.not_not, Int.not_lt, Int.not_le, Nat.not_lt, Nat.not_le, strB_nil, strB_nil', strB_nnil, strB_nnil'] at h19
              refine run_skip ?_
              refine run_seq ?_
              refine run_seq ?_
              refine run_region (q_move .n (.t rfl) rfl <|
                  q_int .n (.t rfl) (.c rfl) rfl rfl <|
                  Lex.nil) ?_
              refine run_cond (.t rfl) rfl (fun h20 => ?_) (fun h20 => ?_)
              · try simp only [Bool.and_eq_true, Bool.or_eq_true, Bool.not_eq_true', Bool.and_eq_false_iff, Bool.or_eq_false_iff, Bool.not_eq_false', decide_eq_true_eq, decide_eq_false_iff_not, beq_iff_eq, bne_iff_ne, beq_eq_false_iff_ne, bne_eq_false_iff_eq, Bool.true_and, ne_eq, Decidable.not_not, Int.not_lt, Int.not_le, Nat.not_lt, Nat.not_le, strB_nil, strB_nil', strB_nnil, strB_nnil'] at h20
                refine run_seq ?_
                refine run_region (q_assign .n (.c rfl) rfl <|
                    Lex.nil) ?_
                exact run_ret [] (.cons (.t rfl rfl) .nil) rfl trivial rfl
              · try simp only [Bool.and_eq_true, Bool.or_eq_true, Bool.not_eq_true', Bool.and_eq_false_iff, Bool.or_eq_false_iff, Bool.not_eq_false', decide_eq_true_eq, decide_eq_false_iff_not, beq_iff_eq, bne_iff_ne, beq_eq_false_iff_ne, bne_eq_false_iff_eq, Bool.true_and, ne_eq, Decidable.not_not, Int.not_lt, Int.not_le, Nat.not_lt, Nat.not_le, strB_nil, strB_nil', strB_nnil, strB_nnil'] at h20
                refine run_skip ?_
                refine run_seq ?_
                refine run_seq ?_
                refine run_region (q_move .n (.t rfl) rfl <|
                    q_len .n (.t rfl) rfl rfl ss_25 rfl <|
                    q_move .n (.t rfl) rfl <|
                    q_len .n (.t rfl) rfl rfl ss_36 rfl <|
                    q_int .n (.t rfl) (.t rfl) rfl rfl <|
                    q_move .n (.t rfl) rfl <|
                    q_move (.f rfl rfl) (.t rfl) rfl <|
                    q_int (.f rfl rfl) (.u rfl id) (.c rfl) rfl rfl <|
                    q_or .n (.t rfl) (.u rfl id) rfl <|
                    q_move .n (.t rfl) rfl <|
                    q_move (.f rfl rfl) (.t rfl) rfl <|
                    q_move (.f rfl rfl) (.t rfl) rfl <|
                    q_len (.f rfl rfl) (.u rfl id) rfl rfl ss_36 rfl <|
                    q_int (.f rfl rfl) (.u rfl id) (.u rfl id) rfl rfl <|
                    q_or .n (.t rfl) (.u rfl id) rfl <|
                    q_move .n (.t rfl) rfl <|
                    q_move (.f rfl rfl) (.t rfl) rfl <|
                    q_len (.f rfl rfl) (.u rfl id) rfl rfl ss_36 rfl <|
                    q_int (.f rfl rfl) (.u rfl id) (.c rfl) rfl rfl <|
                    q_move (.f rfl rfl) (.u rfl id) rfl <|
                    q_move (.t rfl rfl) (.t rfl) rfl <|
                    q_len (.t rfl rfl) (.u rfl id) rfl rfl ss_25 rfl <|
                    q_move (.t rfl rfl) (.t rfl) rfl <|
                    q_int (.t rfl rfl) (.u rfl id) (.u rfl id) rfl rfl <|
                    q_move (.t rfl rfl) (.t rfl) rfl <|
                    q_len (.t rfl rfl) (.u rfl id) rfl rfl ss_36 rfl <|
                    q_int (.t rfl rfl) (.u rfl id) (.u rfl id) rfl rfl <|
                    q_and (.f rfl rfl) (.u rfl id) (.u rfl id) rfl <|
                    q_or .n (.t rfl) (.u rfl id) rfl <|
                    q_move .n (.t rfl) rfl <|
                    q_move (.f rfl rfl) (.t rfl) rfl <|
                    q_int (.f rfl rfl) (.u rfl id) (.c rfl) rfl rfl <|
                    q_move (.f rfl rfl) (.t rfl) rfl <|
                    q_len (.f rfl rfl) (.u rfl id) rfl rfl ss_25 rfl <|
                    q_int (.f rfl rfl) (.u rfl id) (.c rfl) rfl rfl <|
                    q_boolneq (.f rfl rfl) (.u rfl id) (.u rfl id) ub_4 rfl <|
                    q_or .n (.t rfl) (.u rfl id) rfl <|
                    Lex.nil) ?_
                refine run_cond (.t rfl) rfl (fun h21 => ?_) (fun h21 => ?_)
                · try simp only [Bool.and_eq_true, Bool.or_eq_true, Bool.not_eq_true', Bool.and_eq_false_iff, Bool.or_eq_false_iff, Bool.not_eq_false', decide_eq_true_eq, decide_eq_false_iff_not, beq_iff_eq, bne_iff_ne, beq_eq_false_iff_ne, bne_eq_false_iff_eq, Bool.true_and, ne_eq, Decidable.not_not, Int.not_lt, Int.not_le, Nat.not_lt, Nat.not_le, strB_nil, strB_nil', strB_nnil, strB_nnil'] at h21
                  refine run_seq ?_
                  refine run_region (q_assign .n (.c rfl) rfl <|
                      Lex.nil) ?_
                  exact run_ret [] (.cons (.t rfl rfl) .nil) rfl trivial rfl
                · try simp only [Bool.and_eq_true, Bool.or_eq_true, Bool.not_eq_true', Bool.and_eq_false_iff, Bool.or_eq_false_iff, Bool.not_eq_false', decide_eq_true_eq, decide_eq_false_iff_not, beq_iff_eq, bne_iff_ne, beq_eq_false_iff_ne, bne_eq_false_iff_eq, Bool.true_and, ne_eq, Decidable.not_not, Int.not_lt, Int.not_le, Nat.not_lt, Nat.not_le, strB_nil, strB_nil', strB_nnil, strB_nnil'] at h21
                  refine run_skip ?_
                  refine run_seq ?_
                  refine run_region (q_assign .n (.c rfl) rfl <|
                      Lex.nil) ?_
                  refine run_seq ?_
                  refine run_seq ?_
                  refine run_region (q_assign .n (.c rfl) rfl <|
                      Lex.nil) ?_
                  refine run_block ?_
                  refine run_LOOP (m_laws_FnCrews_b4 code more x1 x2 x3) _ _ _ rfl (fun (x4 : Int × Int) => 0 ≤ x4.2 ∧ x4.2 ≤ (m_impl_FewestShifts (m_spec_R8Mine code) x1.1 (m_spec_R8Jobs more (m_spec_R8Mine code)) 3000).2.1) (fun x4 => 0 ≤ x4.2 ∧ x4.2 ≤ (m_impl_FewestShifts (m_spec_R8Mine code) x1.1 (m_spec_R8Jobs more (m_spec_R8Mine code)) 3000).2.1 ∧ (m_impl_FewestShifts (m_spec_R8Mine code) x1.1 (m_spec_R8Jobs more (m_spec_R8Mine code)) 3000).2.1 ≤ x4.2) (fun x4 => ((m_impl_FewestShifts (m_spec_R8Mine code) x1.1 (m_spec_R8Jobs more (m_spec_R8Mine code)) 3000).2.1 - x4.2 : Int).toNat) (fun x4 => ⟨[(5, some (true, .op 201 0 0 0)), (6, some (true, .os 202 (m_spec_R8Jobs more (m_spec_R8Mine code)).length)), (7, some (true, .os 203 x1.1.length)), (9, some (true, .os 206 (m_impl_FewestShifts (m_spec_R8Mine code) x1.1 (m_spec_R8Jobs more (m_spec_R8Mine code)) 3000).1.length)), (10, some (true, .int .i64 (m_impl_FewestShifts (m_spec_R8Mine code) x1.1 (m_spec_R8Jobs more (m_spec_R8Mine code)) 3000).2.1)), (23, some (true, .int .i64 x4.1)), (24, some (true, .int .i64 x4.2))], [(200, some (.row 127 7 ((m_spec_R8Mine code).Airways.map gAirway.v))), (201, some (.box 33 [.int .i64 (m_spec_R8Mine code).Junctions, .os 200 (m_spec_R8Mine code).Airways.length])), (202, some (.row 66 4 ((m_spec_R8Jobs more (m_spec_R8Mine code)).map gJob.v))), (203, some (.row 2 1 (x1.1.map (V.int .i64)))), (206, some (.row 2 1 ((m_impl_FewestShifts (m_spec_R8Mine code) x1.1 (m_spec_R8Jobs more (m_spec_R8Mine code)) 3000).1.map (V.int .i64))))]⟩) (fun x4 => ⟨[(6, some (true, .os 202 (m_spec_R8Jobs more (m_spec_R8Mine code)).length)), (23, some (true, .int .i64 x4.1))], [(202, some (.row 66 4 ((m_spec_R8Jobs more (m_spec_R8Mine code)).map gJob.v)))]⟩) ⟨by omega, by omega⟩ (by omega) (sub_of [] ⟨rfl, rfl, rfl, rfl, rfl, rfl, rfl, trivial⟩ ⟨rfl, rfl, rfl, rfl, rfl, trivial⟩ rfl) ?_ ?_
                  · intro x4 i40
                    obtain ⟨e50, e51, e52⟩ := i40
                    try dsimp only at *
                    refine run_seq ?_
                    refine run_seq ?_
                    refine run_region (q_assign .n (.c rfl) rfl <|
                        Lex.nil) ?_
                    refine run_block ?_
                    refine run_LOOP (m_laws_FnCrews_b6 code more x1 x2 x3 x4) _ _ _ rfl (fun (x6 : Int × Int) => 0 ≤ x6.2 ∧ x6.2 ≤ ((m_spec_R8Jobs more (m_spec_R8Mine code)).length : Int)) (fun x6 => 0 ≤ x6.2 ∧ x6.2 ≤ ((m_spec_R8Jobs more (m_spec_R8Mine code)).length : Int) ∧ ((m_spec_R8Jobs more (m_spec_R8Mine code)).length : Int) ≤ x6.2) (fun x6 => (((m_spec_R8Jobs more (m_spec_R8Mine code)).length : Int) - x6.2 : Int).toNat) (fun x6 => ⟨[(6, some (true, .os 202 (m_spec_R8Jobs more (m_spec_R8Mine code)).length)), (23, some (true, .int .i64 x6.1)), (29, some (true, .int .i64 x6.2))], [(202, some (.row 66 4 ((m_spec_R8Jobs more (m_spec_R8Mine code)).map gJob.v)))]⟩) (fun x6 => ⟨[(23, some (true, .int .i64 x6.1))], []⟩) ⟨by omega, by omega⟩ (by omega) (sub_of [] ⟨rfl, rfl, rfl, trivial⟩ ⟨rfl, trivial⟩ rfl) ?_ ?_
                    · intro x6 i44
                      obtain ⟨e45, e46, e47⟩ := i44
                      try dsimp only at *
                      refine run_seq ?_
                      refine run_region (q_move .n (.t rfl) rfl <|
                          q_int .n (.t rfl) (.c rfl) rfl rfl <|
                          q_assign .n (.t rfl) rfl <|
                          Lex.nil) ?_
                      exact run_ret [] (.cons (.t rfl rfl) .nil) rfl trivial rfl
                    · intro rec6 k6 hk41 x6 i42
                      obtain ⟨e48, e49⟩ := i42
                      try dsimp only at *
                      refine run_seq ?_
                      refine run_seq ?_
                      refine run_region (q_move .n (.t rfl) rfl <|
                          q_move .n (.t rfl) rfl <|
                          q_len .n (.t rfl) rfl rfl ss_36 rfl <|
                          q_int .n (.t rfl) (.t rfl) rfl rfl <|
                          Lex.nil) ?_
                      refine run_cond (.t rfl) rfl (fun h43 => ?_) (fun h43 => ?_)
                      · try simp only [Bool.and_eq_true, Bool.or_eq_true, Bool.not_eq_true', Bool.and_eq_false_iff, Bool.or_eq_false_iff, Bool.not_eq_false', decide_eq_true_eq, decide_eq_false_iff_not, beq_iff_eq, bne_iff_ne, beq_eq_false_iff_ne, bne_eq_false_iff_eq, Bool.true_and, ne_eq, Decidable.not_not, Int.not_lt, Int.not_le, Nat.not_lt, Nat.not_le, strB_nil, strB_nil', strB_nnil, strB_nnil'] at h43
                        refine run_skip ?_
                        refine run_seq ?_
                        refine run_block ?_
                        refine run_region (q_move .n (.t rfl) rfl <|
                            q_move .n (.t rfl) rfl <|
                            q_move .n (.t rfl) rfl <|
                            q_idx_ow .n (.t rfl) (.t rfl) sl_36 (fun _ => by omega) rfl <|
                            q_fld_ow .n (.t rfl) fo_66_2 rfl <|
                            q_ld1_row .n (.t rfl) rfl (fun _ => by omega) rfl rfl rfl ic_2 rfl <|
                            q_int .n (.t rfl) (.t rfl) rfl rfl <|
                            q_assign .n (.t rfl) rfl <|
                            Lex.nil) ?_
                        refine run_endB ?_
                        refine run_region (q_move .n (.t rfl) rfl <|
                            q_add .n (.t rfl) (.c rfl) (fun _ => by omega) rfl <|
                            q_assign .n (.t rfl) rfl <|
                            Lex.nil) ?_
                        exact run_again (IntKind.wrap .i64 (x6.1 - (at' (m_spec_R8Jobs more (m_spec_R8Mine code)) x6.2).People), x6.2 + 1) ⟨by omega, by omega⟩ (by omega) (sub_of [] ⟨rfl, rfl, rfl, trivial⟩ ⟨rfl, trivial⟩ rfl)
                      · try simp only [Bool.and_eq_true, Bool.or_eq_true, Bool.not_eq_true', Bool.and_eq_false_iff, Bool.or_eq_false_iff, Bool.not_eq_false', decide_eq_true_eq, decide_eq_false_iff_not, beq_iff_eq, bne_iff_ne, beq_eq_false_iff_ne, bne_eq_false_iff_eq, Bool.true_and, ne_eq, Decidable.not_not, Int.not_lt, Int.not_le, Nat.not_lt, Nat.not_le, strB_nil, strB_nil', strB_nnil, strB_nnil'] at h43
                        refine run_exit rfl ?_
                        exact run_cont hk41 (x6.1, x6.2) ⟨by omega, by omega, by omega⟩ (sub_of [] ⟨rfl, trivial⟩ trivial rfl)
                  · intro rec4 k4 hk22 x4 i23
                    obtain ⟨e53, e54⟩ := i23
                    try dsimp only at *
                    refine run_seq ?_
                    refine run_seq ?_
                    refine run_region (q_move .n (.t rfl) rfl <|
                        q_move .n (.t rfl) rfl <|
                        q_int .n (.t rfl) (.t rfl) rfl rfl <|
                        Lex.nil) ?_
                    refine run_cond (.t rfl) rfl (fun h24 => ?_) (fun h24 => ?_)
                    · try simp only [Bool.and_eq_true, Bool.or_eq_true, Bool.not_eq_true', Bool.and_eq_false_iff, Bool.or_eq_false_iff, Bool.not_eq_false', decide_eq_true_eq, decide_eq_false_iff_not, beq_iff_eq, bne_iff_ne, beq_eq_false_iff_ne, bne_eq_false_iff_eq, Bool.true_and, ne_eq, Decidable.not_not, Int.not_lt, Int.not_le, Nat.not_lt, Nat.not_le, strB_nil, strB_nil', strB_nnil, strB_nnil'] at h24
                      refine run_skip ?_
                      refine run_seq ?_
                      refine run_block ?_
                      refine run_seq ?_
                      refine run_region (q_bslicem ([] : List Int) (f := V.int .i64) (l := 210) .n rfl rfl .nil rfl si_25 zv_2 rfl rfl rfl <|
                          q_assign .n (.t rfl) rfl <|
                          Lex.nil) ?_
                      refine run_seq ?_
                      refine run_seq ?_
                      refine run_region (q_assign .n (.c rfl) rfl <|
                          Lex.nil) ?_
                      refine run_block ?_
                      refine run_LOOP (m_laws_FnCrews_b5 code more x1 x2 x3 rec4 k4 x4) _ _ _ rfl (fun (x5 : (List Int) × Int) => 0 ≤ x5.2 ∧ x5.2 ≤ ((m_impl_FewestShifts (m_spec_R8Mine code) x1.1 (m_spec_R8Jobs more (m_spec_R8Mine code)) 3000).1.length : Int) ∧ (x5.1.length : Int) + 0 ≤ x5.2 + (([] : List Int).length : Int) ∧ (x5.1.length : Int) ≤ x5.2) (fun x5 => 0 ≤ x5.2 ∧ x5.2 ≤ ((m_impl_FewestShifts (m_spec_R8Mine code) x1.1 (m_spec_R8Jobs more (m_spec_R8Mine code)) 3000).1.length : Int) ∧ (x5.1.length : Int) + 0 ≤ x5.2 + (([] : List Int).length : Int) ∧ (x5.1.length : Int) ≤ x5.2 ∧ ((m_impl_FewestShifts (m_spec_R8Mine code) x1.1 (m_spec_R8Jobs more (m_spec_R8Mine code)) 3000).1.length : Int) ≤ x5.2) (fun x5 => (((m_impl_FewestShifts (m_spec_R8Mine code) x1.1 (m_spec_R8Jobs more (m_spec_R8Mine code)) 3000).1.length : Int) - x5.2 : Int).toNat) (fun x5 => ⟨[(5, some (true, .op 201 0 0 0)), (6, some (true, .os 202 (m_spec_R8Jobs more (m_spec_R8Mine code)).length)), (7, some (true, .os 203 x1.1.length)), (9, some (true, .os 206 (m_impl_FewestShifts (m_spec_R8Mine code) x1.1 (m_spec_R8Jobs more (m_spec_R8Mine code)) 3000).1.length)), (10, some (true, .int .i64 (m_impl_FewestShifts (m_spec_R8Mine code) x1.1 (m_spec_R8Jobs more (m_spec_R8Mine code)) 3000).2.1)), (23, some (true, .int .i64 x4.1)), (24, some (true, .int .i64 x4.2)), (25, some (true, .os 210 x5.1.length)), (26, some (true, .int .i64 x5.2))], [(200, some (.row 127 7 ((m_spec_R8Mine code).Airways.map gAirway.v))), (201, some (.box 33 [.int .i64 (m_spec_R8Mine code).Junctions, .os 200 (m_spec_R8Mine code).Airways.length])), (202, some (.row 66 4 ((m_spec_R8Jobs more (m_spec_R8Mine code)).map gJob.v))), (203, some (.row 2 1 (x1.1.map (V.int .i64)))), (206, some (.row 2 1 ((m_impl_FewestShifts (m_spec_R8Mine code) x1.1 (m_spec_R8Jobs more (m_spec_R8Mine code)) 3000).1.map (V.int .i64)))), (210, some (.row 2 1 (x5.1.map (V.int .i64))))]⟩) (fun x5 => ⟨[(5, some (true, .op 201 0 0 0)), (6, some (true, .os 202 (m_spec_R8Jobs more (m_spec_R8Mine code)).length)), (7, some (true, .os 203 x1.1.length)), (9, some (true, .os 206 (m_impl_FewestShifts (m_spec_R8Mine code) x1.1 (m_spec_R8Jobs more (m_spec_R8Mine code)) 3000).1.length)), (10, some (true, .int .i64 (m_impl_FewestShifts (m_spec_R8Mine code) x1.1 (m_spec_R8Jobs more (m_spec_R8Mine code)) 3000).2.1)), (23, some (true, .int .i64 x4.1)), (24, some (true, .int .i64 x4.2)), (25, some (true, .os 210 x5.1.length))], [(200, some (.row 127 7 ((m_spec_R8Mine code).Airways.map gAirway.v))), (201, some (.box 33 [.int .i64 (m_spec_R8Mine code).Junctions, .os 200 (m_spec_R8Mine code).Airways.length])), (202, some (.row 66 4 ((m_spec_R8Jobs more (m_spec_R8Mine code)).map gJob.v))), (203, some (.row 2 1 (x1.1.map (V.int .i64)))), (206, some (.row 2 1 ((m_impl_FewestShifts (m_spec_R8Mine code) x1.1 (m_spec_R8Jobs more (m_spec_R8Mine code)) 3000).1.map (V.int .i64)))), (210, some (.row 2 1 (x5.1.map (V.int .i64))))]⟩) ⟨by omega, by omega, by (simp only [List.length_append, List.length_cons, List.length_nil, List.length_replicate, put_len] at * <;> omega), by (simp only [List.length_append, List.length_cons, List.length_nil, List.length_replicate, put_len] at * <;> omega)⟩ (by omega) (sub_of [] ⟨rfl, rfl, rfl, rfl, rfl, rfl, rfl, rfl, rfl, trivial⟩ ⟨rfl, rfl, rfl, rfl, rfl, rfl, trivial⟩ rfl) ?_ ?_
                      · intro x5 i29
                        obtain ⟨e31, e32, e33, e34, e35⟩ := i29
                        try dsimp only at *
                        refine run_seq ?_
                        refine run_region (q_ldN_ow .n (.t rfl) rfl (.inr rfl) ag_33 (fun _ => rfl) rfl rfl <|
                            q_move .n (.t rfl) rfl <|
                            q_move .n (.t rfl) rfl <|
                            q_call0 (full := true) .n .f en_38 (.cons (.t rfl) (.cons (.t rfl) (.cons (.t rfl) .nil))) (.cons (.st (.cons (.a (.same rfl)) (.cons (.a (.own rfl rfl rfl (take_all (by simp only [len_map, put_len] <;> rfl)) (by simp only [len_map, put_len] <;> rfl))) .nil))) (.cons (.b (.a (.own rfl rfl rfl (take_all (by simp only [len_map, put_len] <;> rfl)) (by simp only [len_map, put_len] <;> rfl)))) (.cons (.b (.a (.own rfl rfl rfl (take_all (by simp only [len_map, put_len] <;> rfl)) (by simp only [len_map, put_len] <;> rfl)))) .nil))) (fun hg => c_impl_PeopleIn (m_spec_R8Mine code) (m_spec_R8Jobs more (m_spec_R8Mine code)) x5.1 (by omega)) rfl (fun _ => rfl) rfl <|
                            q_move .n (.t rfl) rfl <|
                            q_ext .n (.t rfl) rfl rfl rfl <|
                            q_ext .n (.t rfl) rfl rfl rfl <|
                            q_assign .n (.t rfl) rfl <|
                            q_assign .n (.t rfl) rfl <|
                            Lex.nil) ?_
                        refine run_seq ?_
                        refine run_seq ?_
                        refine run_region (q_move .n (.t rfl) rfl <|
                            q_len .n (.t rfl) rfl rfl ss_25 rfl <|
                            q_int .n (.t rfl) (.c rfl) rfl rfl <|
                            q_move .n (.t rfl) rfl <|
                            q_ldN_ow (.f rfl rfl) (.t rfl) rfl (.inr rfl) ag_33 (fun _ => rfl) rfl rfl <|
                            q_move (.f rfl rfl) (.t rfl) rfl <|
                            q_move (.f rfl rfl) (.t rfl) rfl <|
                            q_move (.f rfl rfl) (.t rfl) rfl <|
                            q_call0 (full := true) (.f rfl rfl) .f en_39 (.cons (.u rfl id) (.cons (.u rfl id) (.cons (.u rfl id) (.cons (.u rfl id) .nil)))) (.cons (.st (.cons (.a (.same rfl)) (.cons (.a (.own rfl rfl rfl (take_all (by simp only [len_map, put_len] <;> rfl)) (by simp only [len_map, put_len] <;> rfl))) .nil))) (.cons (.b (.a (.own rfl rfl rfl (take_all (by simp only [len_map, put_len] <;> rfl)) (by simp only [len_map, put_len] <;> rfl)))) (.cons (.b (.a (.own rfl rfl rfl (take_all (by simp only [len_map, put_len] <;> rfl)) (by simp only [len_map, put_len] <;> rfl)))) (.cons (.b (.a (.own rfl rfl rfl (take_all (by simp only [len_map, put_len] <;> rfl)) (by simp only [len_map, put_len] <;> rfl)))) .nil)))) (fun hg => c_impl_ShiftFits (m_spec_R8Mine code) x1.1 (m_spec_R8Jobs more (m_spec_R8Mine code)) x5.1 (by simp only [Bool.and_eq_true, Bool.or_eq_true, Bool.not_eq_true', Bool.and_eq_false_iff, Bool.or_eq_false_iff, Bool.not_eq_false', decide_eq_true_eq, decide_eq_false_iff_not, beq_iff_eq, bne_iff_ne, beq_eq_false_iff_ne, bne_eq_false_iff_eq, Bool.true_and, ne_eq, Decidable.not_not, Int.not_lt, Int.not_le, Nat.not_lt, Nat.not_le, strB_nil, strB_nil', strB_nnil, strB_nnil'] at hg; omega)) rfl (fun _ => rfl) rfl <|
                            q_not (.f rfl rfl) (.u rfl id) rfl <|
                            q_or .n (.t rfl) (.u rfl id) rfl <|
                            q_move .n (.t rfl) rfl <|
                            q_move (.f rfl rfl) (.t rfl) rfl <|
                            q_int (.f rfl rfl) (.u rfl id) (.c rfl) rfl rfl <|
                            q_or .n (.t rfl) (.u rfl id) rfl <|
                            Lex.nil) ?_
                        refine run_cond (.t rfl) rfl (fun h30 => ?_) (fun h30 => ?_)
                        · try simp only [Bool.and_eq_true, Bool.or_eq_true, Bool.not_eq_true', Bool.and_eq_false_iff, Bool.or_eq_false_iff, Bool.not_eq_false', decide_eq_true_eq, decide_eq_false_iff_not, beq_iff_eq, bne_iff_ne, beq_eq_false_iff_ne, bne_eq_false_iff_eq, Bool.true_and, ne_eq, Decidable.not_not, Int.not_lt, Int.not_le, Nat.not_lt, Nat.not_le, strB_nil, strB_nil', strB_nnil, strB_nnil'] at h30
                          refine run_seq ?_
                          refine run_region (q_assign .n (.c rfl) rfl <|
                              Lex.nil) ?_
                          exact run_ret [] (.cons (.t rfl rfl) .nil) rfl trivial rfl
                        · try simp only [Bool.and_eq_true, Bool.or_eq_true, Bool.not_eq_true', Bool.and_eq_false_iff, Bool.or_eq_false_iff, Bool.not_eq_false', decide_eq_true_eq, decide_eq_false_iff_not, beq_iff_eq, bne_iff_ne, beq_eq_false_iff_ne, bne_eq_false_iff_eq, Bool.true_and, ne_eq, Decidable.not_not, Int.not_lt, Int.not_le, Nat.not_lt, Nat.not_le, strB_nil, strB_nil', strB_nnil, strB_nnil'] at h30
                          refine run_skip ?_
                          refine run_region (q_move .n (.t rfl) rfl <|
                              q_move .n (.t rfl) rfl <|
                              q_int .n (.t rfl) (.t rfl) rfl rfl <|
                              q_assign .n (.t rfl) rfl <|
                              Lex.nil) ?_
                          refine run_endB ?_
                          refine run_region (q_move .n (.t rfl) rfl <|
                              q_add .n (.t rfl) (.c rfl) (fun _ => by omega) rfl <|
                              q_assign .n (.t rfl) rfl <|
                              Lex.nil) ?_
                          exact run_again (IntKind.wrap .i64 (x4.1 + (m_impl_PeopleIn (m_spec_R8Mine code) (m_spec_R8Jobs more (m_spec_R8Mine code)) x5.1).1), x4.2 + 1) ⟨by omega, by omega⟩ (by omega) (sub_of [] ⟨rfl, rfl, rfl, rfl, rfl, rfl, rfl, trivial⟩ ⟨rfl, rfl, rfl, rfl, rfl, trivial⟩ rfl)
                      · intro rec5 k5 hk25 x5 i26
                        obtain ⟨e36, e37, e38, e39⟩ := i26
                        try dsimp only at *
                        refine run_seq ?_
                        refine run_seq ?_
                        refine run_region (q_move .n (.t rfl) rfl <|
                            q_move .n (.t rfl) rfl <|
                            q_len .n (.t rfl) rfl rfl ss_25 rfl <|
                            q_int .n (.t rfl) (.t rfl) rfl rfl <|
                            Lex.nil) ?_
                        refine run_cond (.t rfl) rfl (fun h27 => ?_) (fun h27 => ?_)
                        · try simp only [Bool.and_eq_true, Bool.or_eq_true, Bool.not_eq_true', Bool.and_eq_false_iff, Bool.or_eq_false_iff, Bool.not_eq_false', decide_eq_true_eq, decide_eq_false_iff_not, beq_iff_eq, bne_iff_ne, beq_eq_false_iff_ne, bne_eq_false_iff_eq, Bool.true_and, ne_eq, Decidable.not_not, Int.not_lt, Int.not_le, Nat.not_lt, Nat.not_le, strB_nil, strB_nil', strB_nnil, strB_nnil'] at h27
                          refine run_skip ?_
                          refine run_seq ?_
                          refine run_block ?_
                          refine run_seq ?_
                          refine run_region (q_move .n (.t rfl) rfl <|
                              q_move .n (.t rfl) rfl <|
                              q_idx_ow .n (.t rfl) (.t rfl) sl_25 (fun _ => by omega) rfl <|
                              q_ld1_row .n (.t rfl) rfl (fun _ => by omega) rfl rfl rfl ic_2 rfl <|
                              q_move .n (.t rfl) rfl <|
                              q_int .n (.t rfl) (.t rfl) rfl rfl <|
                              Lex.nil) ?_
                          refine run_cond (.t rfl) rfl (fun h28 => ?_) (fun h28 => ?_)
                          · try simp only [Bool.and_eq_true, Bool.or_eq_true, Bool.not_eq_true', Bool.and_eq_false_iff, Bool.or_eq_false_iff, Bool.not_eq_false', decide_eq_true_eq, decide_eq_false_iff_not, beq_iff_eq, bne_iff_ne, beq_eq_false_iff_ne, bne_eq_false_iff_eq, Bool.true_and, ne_eq, Decidable.not_not, Int.not_lt, Int.not_le, Nat.not_lt, Nat.not_le, strB_nil, strB_nil', strB_nnil, strB_nnil'] at h28
                            refine run_region (q_move .n (.t rfl) rfl <|
                                q_move .n (.t rfl) rfl <|
                                q_bslicem ([x5.2] : List Int) (f := V.int .i64) (l := 211) .n rfl rfl (.cons (.t rfl) .nil) rfl si_25 zv_2 rfl rfl rfl <|
                                q_appm (xs := x5.1) (ys := ([x5.2] : List Int)) (f := V.int .i64) (l := 212) .n rfl (.ow (.t rfl) rfl (take_all (by simp only [len_map, put_len] <;> rfl)) (by simp only [len_map, put_len] <;> rfl)) (.ow (.t rfl) rfl (take_all (by simp only [len_map, put_len] <;> rfl)) (by simp only [len_map, put_len] <;> rfl)) si_25 zv_2 rfl (by (simp only [List.length_append, List.length_cons, List.length_nil, List.length_replicate, put_len] at * <;> omega)) rfl rfl <|
                                q_assign .n (.t rfl) rfl <|
                                Lex.nil) ?_
                            refine run_endB ?_
                            refine run_region (q_move .n (.t rfl) rfl <|
                                q_add .n (.t rfl) (.c rfl) (fun _ => by omega) rfl <|
                                q_assign .n (.t rfl) rfl <|
                                Lex.nil) ?_
                            exact run_again (x5.1 ++ ([x5.2] : List Int), x5.2 + 1) ⟨by omega, by omega, by (simp only [List.length_append, List.length_cons, List.length_nil, List.length_replicate, put_len] at * <;> omega), by (simp only [List.length_append, List.length_cons, List.length_nil, List.length_replicate, put_len] at * <;> omega)⟩ (by omega) (sub_of [(210, 212)] ⟨rfl, rfl, rfl, rfl, rfl, rfl, rfl, rfl, rfl, trivial⟩ ⟨rfl, rfl, rfl, rfl, rfl, rfl, trivial⟩ rfl)
                          · try simp only [Bool.and_eq_true, Bool.or_eq_true, Bool.not_eq_true', Bool.and_eq_false_iff, Bool.or_eq_false_iff, Bool.not_eq_false', decide_eq_true_eq, decide_eq_false_iff_not, beq_iff_eq, bne_iff_ne, beq_eq_false_iff_ne, bne_eq_false_iff_eq, Bool.true_and, ne_eq, Decidable.not_not, Int.not_lt, Int.not_le, Nat.not_lt, Nat.not_le, strB_nil, strB_nil', strB_nnil, strB_nnil'] at h28
                            refine run_skip ?_
                            refine run_endB ?_
                            refine run_region (q_move .n (.t rfl) rfl <|
                                q_add .n (.t rfl) (.c rfl) (fun _ => by omega) rfl <|
                                q_assign .n (.t rfl) rfl <|
                                Lex.nil) ?_
                            exact run_again (x5.1, x5.2 + 1) ⟨by omega, by omega, by (simp only [List.length_append, List.length_cons, List.length_nil, List.length_replicate, put_len] at * <;> omega), by (simp only [List.length_append, List.length_cons, List.length_nil, List.length_replicate, put_len] at * <;> omega)⟩ (by omega) (sub_of [] ⟨rfl, rfl, rfl, rfl, rfl, rfl, rfl, rfl, rfl, trivial⟩ ⟨rfl, rfl, rfl, rfl, rfl, rfl, trivial⟩ rfl)
                        · try simp only [Bool.and_eq_true, Bool.or_eq_true, Bool.not_eq_true', Bool.and_eq_false_iff, Bool.or_eq_false_iff, Bool.not_eq_false', decide_eq_true_eq, decide_eq_false_iff_not, beq_iff_eq, bne_iff_ne, beq_eq_false_iff_ne, bne_eq_false_iff_eq, Bool.true_and, ne_eq, Decidable.not_not, Int.not_lt, Int.not_le, Nat.not_lt, Nat.not_le, strB_nil, strB_nil', strB_nnil, strB_nnil'] at h27
                          refine run_exit rfl ?_
                          exact run_cont hk25 (x5.1, x5.2) ⟨by omega, by omega, by omega, by omega, by omega⟩ (sub_of [] ⟨rfl, rfl, rfl, rfl, rfl, rfl, rfl, rfl, trivial⟩ ⟨rfl, rfl, rfl, rfl, rfl, rfl, trivial⟩ rfl)
                    · try simp only [Bool.and_eq_true, Bool.or_eq_true, Bool.not_eq_true', Bool.and_eq_false_iff, Bool.or_eq_false_iff, Bool.not_eq_false', decide_eq_true_eq, decide_eq_false_iff_not, beq_iff_eq, bne_iff_ne, beq_eq_false_iff_ne, bne_eq_false_iff_eq, Bool.true_and, ne_eq, Decidable.not_not, Int.not_lt, Int.not_le, Nat.not_lt, Nat.not_le, strB_nil, strB_nil', strB_nnil, strB_nnil'] at h24
                      refine run_exit rfl ?_
                      exact run_cont hk22 (x4.1, x4.2) ⟨by omega, by omega, by omega⟩ (sub_of [] ⟨rfl, rfl, trivial⟩ ⟨rfl, trivial⟩ rfl)
          · intro rec3 k3 hk14 x3 i15
            obtain ⟨e58, e59⟩ := i15
            try dsimp only at *
            refine run_seq ?_
            refine run_seq ?_
            refine run_region (q_move .n (.t rfl) rfl <|
                q_move .n (.t rfl) rfl <|
                q_len .n (.t rfl) rfl rfl ss_25 rfl <|
                q_int .n (.t rfl) (.t rfl) rfl rfl <|
                Lex.nil) ?_
            refine run_cond (.t rfl) rfl (fun h16 => ?_) (fun h16 => ?_)
            · try simp only [Bool.and_eq_true, Bool.or_eq_true, Bool.not_eq_true', Bool.and_eq_false_iff, Bool.or_eq_false_iff, Bool.not_eq_false', decide_eq_true_eq, decide_eq_false_iff_not, beq_iff_eq, bne_iff_ne, beq_eq_false_iff_ne, bne_eq_false_iff_eq, Bool.true_and, ne_eq, Decidable.not_not, Int.not_lt, Int.not_le, Nat.not_lt, Nat.not_le, strB_nil, strB_nil', strB_nnil, strB_nnil'] at h16
              refine run_skip ?_
              refine run_seq ?_
              refine run_block ?_
              refine run_seq ?_
              refine run_region (q_move .n (.t rfl) rfl <|
                  q_move .n (.t rfl) rfl <|
                  q_move .n (.t rfl) rfl <|
                  q_idx_ow .n (.t rfl) (.t rfl) sl_25 (fun _ => by omega) rfl <|
                  q_ld1_row .n (.t rfl) rfl (fun _ => by omega) rfl rfl rfl ic_2 rfl <|
                  q_int .n (.t rfl) (.t rfl) rfl rfl <|
                  q_assign .n (.t rfl) rfl <|
                  Lex.nil) ?_
              refine run_seq ?_
              refine run_draw fmo (q_move .n (.t rfl) rfl <|
                  q_move .n (.t rfl) rfl <|
                  q_call0 (full := true) .n .f en_37 (.cons (.t rfl) (.cons (.t rfl) .nil)) (.cons (.b (.a (.own rfl rfl rfl (take_all (by simp only [len_map, put_len] <;> rfl)) (by simp only [len_map, put_len] <;> rfl)))) (.cons (.b (.a (.same rfl))) .nil)) (fun hg => c_laws_r8Has (m_impl_ShortAirways (m_spec_R8Mine code) x1.1 (m_spec_R8Jobs more (m_spec_R8Mine code))).1 x3.2) rfl (fun _ => rfl) rfl <|
                  q_move .n (.t rfl) rfl <|
                  q_move .n (.t rfl) rfl <|
                  q_idx_ow .n (.t rfl) (.t rfl) sl_25 (fun _ => by omega) rfl <|
                  q_ld1_row .n (.t rfl) rfl (fun _ => by omega) rfl rfl rfl ic_2 rfl <|
                  q_move .n (.t rfl) rfl <|
                  q_move .n (.t rfl) rfl <|
                  q_idx_ow .n (.t rfl) (.t rfl) sl_25 (fun _ => by omega) rfl <|
                  q_ld1_row .n (.t rfl) rfl (fun _ => by omega) rfl rfl rfl ic_2 rfl <|
                  q_int .n (.t rfl) (.t rfl) rfl rfl <|
                  q_boolneq .n (.t rfl) (.t rfl) ub_4 rfl <|
                  Lex.nil) (by kernel_rfl) ?_
              refine run_cond (.t rfl) rfl (fun h17 => ?_) (fun h17 => ?_)
              · try simp only [Bool.and_eq_true, Bool.or_eq_true, Bool.not_eq_true', Bool.and_eq_false_iff, Bool.or_eq_false_iff, Bool.not_eq_false', decide_eq_true_eq, decide_eq_false_iff_not, beq_iff_eq, bne_iff_ne, beq_eq_false_iff_ne, bne_eq_false_iff_eq, Bool.true_and, ne_eq, Decidable.not_not, Int.not_lt, Int.not_le, Nat.not_lt, Nat.not_le, strB_nil, strB_nil', strB_nnil, strB_nnil'] at h17
                refine run_seq ?_
                refine run_region (q_assign .n (.c rfl) rfl <|
                    Lex.nil) ?_
                exact run_ret [] (.cons (.t rfl rfl) .nil) rfl trivial rfl
              · try simp only [Bool.and_eq_true, Bool.or_eq_true, Bool.not_eq_true', Bool.and_eq_false_iff, Bool.or_eq_false_iff, Bool.not_eq_false', decide_eq_true_eq, decide_eq_false_iff_not, beq_iff_eq, bne_iff_ne, beq_eq_false_iff_ne, bne_eq_false_iff_eq, Bool.true_and, ne_eq, Decidable.not_not, Int.not_lt, Int.not_le, Nat.not_lt, Nat.not_le, strB_nil, strB_nil', strB_nnil, strB_nnil'] at h17
                refine run_skip ?_
                refine run_endB ?_
                refine run_region (q_move .n (.t rfl) rfl <|
                    q_add .n (.t rfl) (.c rfl) (fun _ => by omega) rfl <|
                    q_assign .n (.t rfl) rfl <|
                    Lex.nil) ?_
                exact run_again (IntKind.wrap .i64 (x3.1 - (at' (m_impl_AirNeeds (m_spec_R8Mine code) (m_spec_R8Jobs more (m_spec_R8Mine code))).1 x3.2)), x3.2 + 1) ⟨by omega, by omega⟩ (by omega) (sub_of [] ⟨rfl, rfl, rfl, rfl, rfl, rfl, rfl, rfl, rfl, rfl, rfl, trivial⟩ ⟨rfl, rfl, rfl, rfl, rfl, rfl, rfl, rfl, trivial⟩ rfl)
            · try simp only [Bool.and_eq_true, Bool.or_eq_true, Bool.not_eq_true', Bool.and_eq_false_iff, Bool.or_eq_false_iff, Bool.not_eq_false', decide_eq_true_eq, decide_eq_false_iff_not, beq_iff_eq, bne_iff_ne, beq_eq_false_iff_ne, bne_eq_false_iff_eq, Bool.true_and, ne_eq, Decidable.not_not, Int.not_lt, Int.not_le, Nat.not_lt, Nat.not_le, strB_nil, strB_nil', strB_nnil, strB_nnil'] at h16
              refine run_exit rfl ?_
              exact run_cont hk14 (x3.1, x3.2) ⟨by omega, by omega, by omega⟩ (sub_of [] ⟨rfl, rfl, rfl, rfl, rfl, rfl, rfl, rfl, rfl, trivial⟩ ⟨rfl, rfl, rfl, rfl, rfl, rfl, rfl, trivial⟩ rfl)
        · intro rec2 k2 hk9 x2 i10
          obtain ⟨e63, e64⟩ := i10
          try dsimp only at *
          refine run_seq ?_
          refine run_seq ?_
          refine run_region (q_move .n (.t rfl) rfl <|
              q_move .n (.t rfl) rfl <|
              q_len .n (.t rfl) rfl rfl ss_36 rfl <|
              q_int .n (.t rfl) (.t rfl) rfl rfl <|
              Lex.nil) ?_
          refine run_cond (.t rfl) rfl (fun h11 => ?_) (fun h11 => ?_)
          · try simp only [Bool.and_eq_true, Bool.or_eq_true, Bool.not_eq_true', Bool.and_eq_false_iff, Bool.or_eq_false_iff, Bool.not_eq_false', decide_eq_true_eq, decide_eq_false_iff_not, beq_iff_eq, bne_iff_ne, beq_eq_false_iff_ne, bne_eq_false_iff_eq, Bool.true_and, ne_eq, Decidable.not_not, Int.not_lt, Int.not_le, Nat.not_lt, Nat.not_le, strB_nil, strB_nil', strB_nnil, strB_nnil'] at h11
            refine run_skip ?_
            refine run_seq ?_
            refine run_block ?_
            refine run_seq ?_
            refine run_region (q_move .n (.t rfl) rfl <|
                q_move .n (.t rfl) rfl <|
                q_idx_ow .n (.t rfl) (.t rfl) sl_36 (fun _ => by omega) rfl <|
                q_ldN_row .n (.t rfl) rfl (fun _ => by omega) rfl ag_66 rfl rfl rfl <|
                q_call0 (full := false) .n .f en_36 (.cons (.t rfl) .nil) (.cons (.sts rfl) .nil) (fun hg => c_impl_NeedOf (at' (m_spec_R8Jobs more (m_spec_R8Mine code)) x2.2)) rfl (fun h => Bool.noConfusion h) rfl <|
                q_move .n (.t rfl) rfl <|
                q_ext .n (.t rfl) rfl rfl rfl <|
                q_ext .n (.t rfl) rfl rfl rfl <|
                q_assign .n (.t rfl) rfl <|
                q_assign .n (.t rfl) rfl <|
                Lex.nil) ?_
            refine run_seq ?_
            refine run_seq ?_
            refine run_region (q_move .n (.t rfl) rfl <|
                q_int .n (.t rfl) (.c rfl) rfl rfl <|
                Lex.nil) ?_
            refine run_cond (.t rfl) rfl (fun h12 => ?_) (fun h12 => ?_)
            · try simp only [Bool.and_eq_true, Bool.or_eq_true, Bool.not_eq_true', Bool.and_eq_false_iff, Bool.or_eq_false_iff, Bool.not_eq_false', decide_eq_true_eq, decide_eq_false_iff_not, beq_iff_eq, bne_iff_ne, beq_eq_false_iff_ne, bne_eq_false_iff_eq, Bool.true_and, ne_eq, Decidable.not_not, Int.not_lt, Int.not_le, Nat.not_lt, Nat.not_le, strB_nil, strB_nil', strB_nnil, strB_nnil'] at h12
              refine run_seq ?_
              refine run_region (q_assign .n (.c rfl) rfl <|
                  Lex.nil) ?_
              exact run_ret [] (.cons (.t rfl rfl) .nil) rfl trivial rfl
            · try simp only [Bool.and_eq_true, Bool.or_eq_true, Bool.not_eq_true', Bool.and_eq_false_iff, Bool.or_eq_false_iff, Bool.not_eq_false', decide_eq_true_eq, decide_eq_false_iff_not, beq_iff_eq, bne_iff_ne, beq_eq_false_iff_ne, bne_eq_false_iff_eq, Bool.true_and, ne_eq, Decidable.not_not, Int.not_lt, Int.not_le, Nat.not_lt, Nat.not_le, strB_nil, strB_nil', strB_nnil, strB_nnil'] at h12
              refine run_skip ?_
              refine run_region (q_move .n (.t rfl) rfl <|
                  q_move .n (.t rfl) rfl <|
                  q_int .n (.t rfl) (.t rfl) rfl rfl <|
                  q_assign .n (.t rfl) rfl <|
                  Lex.nil) ?_
              refine run_endB ?_
              refine run_region (q_move .n (.t rfl) rfl <|
                  q_add .n (.t rfl) (.c rfl) (fun _ => by omega) rfl <|
                  q_assign .n (.t rfl) rfl <|
                  Lex.nil) ?_
              exact run_again (IntKind.wrap .i64 (x2.1 + (m_impl_NeedOf (at' (m_spec_R8Jobs more (m_spec_R8Mine code)) x2.2)).1), x2.2 + 1) ⟨by omega, by omega⟩ (by omega) (sub_of [] ⟨rfl, rfl, rfl, rfl, rfl, rfl, rfl, rfl, rfl, rfl, rfl, trivial⟩ ⟨rfl, rfl, rfl, rfl, rfl, rfl, rfl, rfl, trivial⟩ rfl)
          · try simp only [Bool.and_eq_true, Bool.or_eq_true, Bool.not_eq_true', Bool.and_eq_false_iff, Bool.or_eq_false_iff, Bool.not_eq_false', decide_eq_true_eq, decide_eq_false_iff_not, beq_iff_eq, bne_iff_ne, beq_eq_false_iff_ne, bne_eq_false_iff_eq, Bool.true_and, ne_eq, Decidable.not_not, Int.not_lt, Int.not_le, Nat.not_lt, Nat.not_le, strB_nil, strB_nil', strB_nnil, strB_nnil'] at h11
            refine run_exit rfl ?_
            exact run_cont hk9 (x2.1, x2.2) ⟨by omega, by omega, by omega⟩ (sub_of [] ⟨rfl, rfl, rfl, rfl, rfl, rfl, rfl, rfl, rfl, rfl, trivial⟩ ⟨rfl, rfl, rfl, rfl, rfl, rfl, rfl, rfl, trivial⟩ rfl)
    · intro rec1 k1 hk4 x1 i5
      obtain ⟨e70, e71, e72, e73⟩ := i5
      try dsimp only at *
      refine run_seq ?_
      refine run_seq ?_
      refine run_region (q_move .n (.t rfl) rfl <|
          q_fld_ow .n (.t rfl) fo_33_1 rfl <|
          q_ld1_ow .n (.t rfl) rfl (.inr rfl) (fun _ => rfl) rfl ic_31 rfl <|
          q_len .n (.t rfl) rfl rfl ss_31 rfl <|
          q_int .n (.t rfl) (.t rfl) rfl rfl <|
          Lex.nil) ?_
      refine run_cond (.t rfl) rfl (fun h6 => ?_) (fun h6 => ?_)
      · try simp only [Bool.and_eq_true, Bool.or_eq_true, Bool.not_eq_true', Bool.and_eq_false_iff, Bool.or_eq_false_iff, Bool.not_eq_false', decide_eq_true_eq, decide_eq_false_iff_not, beq_iff_eq, bne_iff_ne, beq_eq_false_iff_ne, bne_eq_false_iff_eq, Bool.true_and, ne_eq, Decidable.not_not, Int.not_lt, Int.not_le, Nat.not_lt, Nat.not_le, strB_nil, strB_nil', strB_nnil, strB_nnil'] at h6
        refine run_skip ?_
        refine run_seq ?_
        refine run_block ?_
        refine run_region (q_move .n (.t rfl) rfl <|
            q_move .n (.t rfl) rfl <|
            q_move .n (.t rfl) rfl <|
            q_int .n (.c rfl) (.t rfl) rfl rfl <|
            q_call0 (full := false) .n .f en_32 (.cons (.t rfl) (.cons (.t rfl) (.cons (.c rfl) .nil))) (.cons (.b (.a (.same rfl))) (.cons (.b (.a (.same rfl))) (.cons (.b (.a (.same rfl))) .nil))) (fun hg => c_laws_r8Wide more (IntKind.wrap .i64 (2 * x1.2)) 1500 (by ((rw [wr64 (n := 2 * x1.2) (by omega)]; omega))) (by omega)) rfl (fun h => Bool.noConfusion h) rfl <|
            q_int .n (.c rfl) (.t rfl) rfl rfl <|
            q_bslicem ([IntKind.wrap .i64 (300 + (m_laws_r8Wide more (IntKind.wrap .i64 (2 * x1.2)) 1500))] : List Int) (f := V.int .i64) (l := 204) .n rfl rfl (.cons (.t rfl) .nil) rfl si_25 zv_2 rfl rfl rfl <|
            q_appm (xs := x1.1) (ys := ([IntKind.wrap .i64 (300 + (m_laws_r8Wide more (IntKind.wrap .i64 (2 * x1.2)) 1500))] : List Int)) (f := V.int .i64) (l := 205) .n rfl (.ow (.t rfl) rfl (take_all (by simp only [len_map, put_len] <;> rfl)) (by simp only [len_map, put_len] <;> rfl)) (.ow (.t rfl) rfl (take_all (by simp only [len_map, put_len] <;> rfl)) (by simp only [len_map, put_len] <;> rfl)) si_25 zv_2 rfl (by (simp only [List.length_append, List.length_cons, List.length_nil, List.length_replicate, put_len] at * <;> omega)) rfl rfl <|
            q_assign .n (.t rfl) rfl <|
            Lex.nil) ?_
        refine run_endB ?_
        refine run_region (q_move .n (.t rfl) rfl <|
            q_add .n (.t rfl) (.c rfl) (fun _ => by omega) rfl <|
            q_assign .n (.t rfl) rfl <|
            Lex.nil) ?_
        exact run_again (x1.1 ++ ([IntKind.wrap .i64 (300 + (m_laws_r8Wide more (IntKind.wrap .i64 (2 * x1.2)) 1500))] : List Int), x1.2 + 1) ⟨by omega, by omega, by (simp only [List.length_append, List.length_cons, List.length_nil, List.length_replicate, put_len] at * <;> omega), by (simp only [List.length_append, List.length_cons, List.length_nil, List.length_replicate, put_len] at * <;> omega)⟩ (by omega) (sub_of [(203, 205)] ⟨rfl, rfl, rfl, rfl, rfl, trivial⟩ ⟨rfl, rfl, rfl, rfl, trivial⟩ rfl)
      · try simp only [Bool.and_eq_true, Bool.or_eq_true, Bool.not_eq_true', Bool.and_eq_false_iff, Bool.or_eq_false_iff, Bool.not_eq_false', decide_eq_true_eq, decide_eq_false_iff_not, beq_iff_eq, bne_iff_ne, beq_eq_false_iff_ne, bne_eq_false_iff_eq, Bool.true_and, ne_eq, Decidable.not_not, Int.not_lt, Int.not_le, Nat.not_lt, Nat.not_le, strB_nil, strB_nil', strB_nnil, strB_nnil'] at h6
        refine run_exit rfl ?_
        exact run_cont hk4 (x1.1, x1.2) ⟨by omega, by omega, by omega, by omega, by omega⟩ (sub_of [] ⟨rfl, rfl, rfl, trivial⟩ ⟨rfl, rfl, rfl, rfl, trivial⟩ rfl)

end Go.Proofs.Ytchjibndocnnhaa
