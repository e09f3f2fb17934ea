/-
  THE WALKS: each Go function computes its model. Conditions: as each theorem states them (hp1, hp2 ..).
-/
import Derived.Test.YtdkkcemlnjlebaaDoorVersionsWalks2
set_option linter.unusedVariables false
set_option linter.unusedSimpArgs false
set_option linter.unusedSectionVars false
set_option linter.unnecessarySimpa false
namespace Go.Proofs.YtdkkcemlnjlebaaDoor
open Go Go.RowKit Go.Proofs Go.Proofs.YtdkkcemlnjlebaaDoor.E
/-! ### spec_l27State -/
theorem c_spec_l27State (list : List gSetting) : Con Tryd.prog 67 [.sl 2 (list.map gSetting.v)] [] (.bool (m_spec_l27State list)) ([]) := by
  refine con_intro (out := fun r : Bool => ((.bool r : V), ([] : List (Nat × Option O)))) (r := (m_spec_l27State list)) Tryd.func67 rfl Tryd.ntmps67 rfl ?_
  refine run_fact (t := 0) rfl fun hl => ?_
  have l1 := hl; clear hl; simp only [List.length_map] at l1
  refine run_seq ?_
  refine run_region (q_assign .n (.c rfl) rfl <|
      Lex.nil) ?_
  refine run_seq ?_
  refine run_seq ?_
  refine run_region (q_assign .n (.c rfl) rfl <|
      Lex.nil) ?_
  refine run_block ?_
  refine run_LOOP (m_spec_l27State_b1 list) _ _ _ rfl (fun (x1 : Int) => 0 ≤ x1 ∧ x1 ≤ (list.length : Int)) (fun x1 => 0 ≤ x1 ∧ x1 ≤ (list.length : Int) ∧ (list.length : Int) ≤ x1) (fun x1 => ((list.length : Int) - x1 : Int).toNat) (fun x1 => ⟨[(0, some (true, .sl 2 (list.map gSetting.v))), (3, some (true, .int .i64 x1))], []⟩) (fun x1 => ⟨[(0, some (true, .sl 2 (list.map gSetting.v)))], []⟩) ⟨by first | omega | assumption | (simp only [List.length_append, List.length_cons, List.length_nil, List.length_replicate, put_len] at * <;> omega), by first | omega | assumption | (simp only [List.length_append, List.length_cons, List.length_nil, List.length_replicate, put_len] at * <;> omega)⟩ (by first | omega | assumption | (simp only [List.length_append, List.length_cons, List.length_nil, List.length_replicate, put_len] at * <;> omega)) (sub_of [] ⟨rfl, rfl, trivial⟩ trivial rfl) ?_ ?_
  · intro x1 i6
    obtain ⟨e7, e8, e9⟩ := i6
    try dsimp only at *
    refine run_seq ?_
    refine run_region (q_move .n (.t rfl) rfl <|
        q_len .n (.t rfl) rfl len_map ss_34 rfl <|
        q_int .n (.t rfl) (.c rfl) rfl rfl <|
        q_assign .n (.t rfl) rfl <|
        Lex.nil) ?_
    exact run_ret [] (.cons (.t rfl rfl) .nil) rfl trivial rfl
  · intro rec1 k1 hk2 x1 i3
    obtain ⟨e10, e11⟩ := i3
    try dsimp only at *
    refine run_seq ?_
    refine run_seq ?_
    refine run_region (q_move .n (.t rfl) rfl <|
        q_move .n (.t rfl) rfl <|
        q_len .n (.t rfl) rfl len_map ss_34 rfl <|
        q_int .n (.t rfl) (.t rfl) rfl rfl <|
        Lex.nil) ?_
    refine run_cond (.t rfl) rfl (fun h4 => ?_) (fun h4 => ?_)
    · try simp only [Bool.and_eq_true, Bool.or_eq_true, Bool.not_eq_true', Bool.and_eq_false_iff, Bool.or_eq_false_iff, Bool.not_eq_false', decide_eq_true_eq, decide_eq_false_iff_not, beq_iff_eq, bne_iff_ne, beq_eq_false_iff_ne, bne_eq_false_iff_eq, Bool.true_and, ne_eq, Decidable.not_not, Int.not_lt, Int.not_le, Nat.not_lt, Nat.not_le, strB_nil, strB_nil', strB_nnil, strB_nnil'] at h4
      refine run_skip ?_
      refine run_seq ?_
      refine run_block ?_
      refine run_seq ?_
      refine run_draw fmo (q_move .n (.t rfl) rfl <|
          q_move .n (.t rfl) rfl <|
          q_idx_rm .n (.t rfl) (.t rfl) sl_34 (fun _ => by first | omega | assumption | (simp only [List.length_append, List.length_cons, List.length_nil, List.length_replicate, put_len] at * <;> omega)) rfl <|
          q_call0 (full := false) .n .f en_88 (.cons (.t rfl) .nil) (.cons (.b (.a (.same rfl))) .nil) (fun hg => c_spec_l27Setting (at' list x1)) rfl (fun h => Bool.noConfusion h) rfl <|
          q_not .n (.t rfl) rfl <|
          q_move .n (.t rfl) rfl <|
          q_move (.f rfl rfl) (.t rfl) rfl <|
          q_int (.f rfl rfl) (.u rfl id) (.c rfl) rfl rfl <|
          q_move (.f rfl rfl) (.u rfl id) rfl <|
          q_move (.t rfl rfl) (.t rfl) rfl <|
          q_move (.t rfl rfl) (.t rfl) rfl <|
          q_sub (.t rfl rfl) (.u rfl id) (.c rfl) (fun hg => by simp only [Bool.and_eq_true, Bool.or_eq_true, Bool.not_eq_true', Bool.and_eq_false_iff, Bool.or_eq_false_iff, Bool.not_eq_false', decide_eq_true_eq, decide_eq_false_iff_not, beq_iff_eq, bne_iff_ne, beq_eq_false_iff_ne, bne_eq_false_iff_eq, Bool.true_and, ne_eq, Decidable.not_not, Int.not_lt, Int.not_le, Nat.not_lt, Nat.not_le, strB_nil, strB_nil', strB_nnil, strB_nnil'] at hg; first | omega | assumption | (simp only [List.length_append, List.length_cons, List.length_nil, List.length_replicate, put_len] at * <;> omega)) rfl <|
          q_idx_rm (.t rfl rfl) (.u rfl id) (.u rfl id) sl_34 (fun hg => by simp only [Bool.and_eq_true, Bool.or_eq_true, Bool.not_eq_true', Bool.and_eq_false_iff, Bool.or_eq_false_iff, Bool.not_eq_false', decide_eq_true_eq, decide_eq_false_iff_not, beq_iff_eq, bne_iff_ne, beq_eq_false_iff_ne, bne_eq_false_iff_eq, Bool.true_and, ne_eq, Decidable.not_not, Int.not_lt, Int.not_le, Nat.not_lt, Nat.not_le, strB_nil, strB_nil', strB_nnil, strB_nnil'] at hg; first | omega | assumption | (simp only [List.length_append, List.length_cons, List.length_nil, List.length_replicate, put_len] at * <;> omega)) rfl <|
          q_fld_ro (.t rfl rfl) (.u rfl id) fo_75_0 rfl <|
          q_ld1_ro (.t rfl rfl) (.u rfl id) rfl ic_9 rfl <|
          q_move (.t rfl rfl) (.t rfl) rfl <|
          q_move (.t rfl rfl) (.t rfl) rfl <|
          q_idx_rm (.t rfl rfl) (.u rfl id) (.u rfl id) sl_34 (fun hg => by simp only [Bool.and_eq_true, Bool.or_eq_true, Bool.not_eq_true', Bool.and_eq_false_iff, Bool.or_eq_false_iff, Bool.not_eq_false', decide_eq_true_eq, decide_eq_false_iff_not, beq_iff_eq, bne_iff_ne, beq_eq_false_iff_ne, bne_eq_false_iff_eq, Bool.true_and, ne_eq, Decidable.not_not, Int.not_lt, Int.not_le, Nat.not_lt, Nat.not_le, strB_nil, strB_nil', strB_nnil, strB_nnil'] at hg; first | omega | assumption | (simp only [List.length_append, List.length_cons, List.length_nil, List.length_replicate, put_len] at * <;> omega)) rfl <|
          q_fld_ro (.t rfl rfl) (.u rfl id) fo_75_0 rfl <|
          q_ld1_ro (.t rfl rfl) (.u rfl id) rfl ic_9 rfl <|
          q_strcmp (.t rfl rfl) (.u rfl id) (.u rfl id) rfl rfl <|
          q_and (.f rfl rfl) (.u rfl id) (.u rfl id) rfl <|
          q_or .n (.t rfl) (.u rfl id) rfl <|
          Lex.nil) (by kernel_rfl) ?_
      refine run_cond (.t rfl) rfl (fun h5 => ?_) (fun h5 => ?_)
      · try simp only [Bool.and_eq_true, Bool.or_eq_true, Bool.not_eq_true', Bool.and_eq_false_iff, Bool.or_eq_false_iff, Bool.not_eq_false', decide_eq_true_eq, decide_eq_false_iff_not, beq_iff_eq, bne_iff_ne, beq_eq_false_iff_ne, bne_eq_false_iff_eq, Bool.true_and, ne_eq, Decidable.not_not, Int.not_lt, Int.not_le, Nat.not_lt, Nat.not_le, strB_nil, strB_nil', strB_nnil, strB_nnil'] at h5
        refine run_seq ?_
        refine run_region (q_assign .n (.c rfl) rfl <|
            Lex.nil) ?_
        exact run_ret [] (.cons (.t rfl rfl) .nil) rfl trivial rfl
      · try simp only [Bool.and_eq_true, Bool.or_eq_true, Bool.not_eq_true', Bool.and_eq_false_iff, Bool.or_eq_false_iff, Bool.not_eq_false', decide_eq_true_eq, decide_eq_false_iff_not, beq_iff_eq, bne_iff_ne, beq_eq_false_iff_ne, bne_eq_false_iff_eq, Bool.true_and, ne_eq, Decidable.not_not, Int.not_lt, Int.not_le, Nat.not_lt, Nat.not_le, strB_nil, strB_nil', strB_nnil, strB_nnil'] at h5
        refine run_skip ?_
        refine run_endB ?_
        refine run_region (q_move .n (.t rfl) rfl <|
            q_add .n (.t rfl) (.c rfl) (fun _ => by first | omega | assumption | (simp only [List.length_append, List.length_cons, List.length_nil, List.length_replicate, put_len] at * <;> omega)) rfl <|
            q_assign .n (.t rfl) rfl <|
            Lex.nil) ?_
        exact run_again (x1 + 1) ⟨by first | omega | assumption | (simp only [List.length_append, List.length_cons, List.length_nil, List.length_replicate, put_len] at * <;> omega), by first | omega | assumption | (simp only [List.length_append, List.length_cons, List.length_nil, List.length_replicate, put_len] at * <;> omega)⟩ (by first | omega | assumption | (simp only [List.length_append, List.length_cons, List.length_nil, List.length_replicate, put_len] at * <;> omega)) (sub_of [] ⟨rfl, rfl, trivial⟩ trivial rfl)
    · try simp only [Bool.and_eq_true, Bool.or_eq_true, Bool.not_eq_true', Bool.and_eq_false_iff, Bool.or_eq_false_iff, Bool.not_eq_false', decide_eq_true_eq, decide_eq_false_iff_not, beq_iff_eq, bne_iff_ne, beq_eq_false_iff_ne, bne_eq_false_iff_eq, Bool.true_and, ne_eq, Decidable.not_not, Int.not_lt, Int.not_le, Nat.not_lt, Nat.not_le, strB_nil, strB_nil', strB_nnil, strB_nnil'] at h4
      refine run_exit rfl ?_
      exact run_cont hk2 x1 ⟨by first | omega | assumption | (simp only [List.length_append, List.length_cons, List.length_nil, List.length_replicate, put_len] at * <;> omega), by first | omega | assumption | (simp only [List.length_append, List.length_cons, List.length_nil, List.length_replicate, put_len] at * <;> omega), by first | omega | assumption | (simp only [List.length_append, List.length_cons, List.length_nil, List.length_replicate, put_len] at * <;> omega)⟩ (sub_of [] ⟨rfl, trivial⟩ trivial rfl)

/-! ### spec_l27Ok -/
theorem c_spec_l27Ok (list : List gVersion) (hp1 : ∀ v ∈ list, v.Memo.length ≤ 1048576) : Con Tryd.prog 28 [.sl 4 (list.map gVersion.v)] [] (.bool (m_spec_l27Ok list)) ([]) := by
  refine con_intro (out := fun r : Bool => ((.bool r : V), ([] : List (Nat × Option O)))) (r := (m_spec_l27Ok list)) Tryd.func28 rfl Tryd.ntmps28 rfl ?_
  refine run_fact (t := 0) rfl fun hl => ?_
  have l1 := hl; clear hl; simp only [List.length_map] at l1
  refine run_seq ?_
  refine run_region (q_assign .n (.c rfl) rfl <|
      Lex.nil) ?_
  refine run_seq ?_
  refine run_seq ?_
  refine run_region (q_assign .n (.c rfl) rfl <|
      Lex.nil) ?_
  refine run_block ?_
  refine run_LOOP (m_spec_l27Ok_b1 list) _ _ _ rfl (fun (x1 : Int) => 0 ≤ x1 ∧ x1 ≤ (list.length : Int)) (fun x1 => 0 ≤ x1 ∧ x1 ≤ (list.length : Int) ∧ (list.length : Int) ≤ x1) (fun x1 => ((list.length : Int) - x1 : Int).toNat) (fun x1 => ⟨[(0, some (true, .sl 4 (list.map gVersion.v))), (3, some (true, .int .i64 x1))], []⟩) (fun x1 => ⟨[(0, some (true, .sl 4 (list.map gVersion.v)))], []⟩) ⟨by first | omega | assumption | (simp only [List.length_append, List.length_cons, List.length_nil, List.length_replicate, put_len] at * <;> omega) | ((exact hp1 _ (at_mem ⟨by omega, by omega⟩)); done) | ((exact hp1); done), by first | omega | assumption | (simp only [List.length_append, List.length_cons, List.length_nil, List.length_replicate, put_len] at * <;> omega) | ((exact hp1 _ (at_mem ⟨by omega, by omega⟩)); done) | ((exact hp1); done)⟩ (by first | omega | assumption | (simp only [List.length_append, List.length_cons, List.length_nil, List.length_replicate, put_len] at * <;> omega) | ((exact hp1 _ (at_mem ⟨by omega, by omega⟩)); done) | ((exact hp1); done)) (sub_of [] ⟨rfl, rfl, trivial⟩ trivial rfl) ?_ ?_
  · intro x1 i6
    obtain ⟨e7, e8, e9⟩ := i6
    try dsimp only at *
    refine run_seq ?_
    refine run_region (q_move .n (.t rfl) rfl <|
        q_len .n (.t rfl) rfl len_map ss_24 rfl <|
        q_int .n (.t rfl) (.c rfl) rfl rfl <|
        q_assign .n (.t rfl) rfl <|
        Lex.nil) ?_
    exact run_ret [] (.cons (.t rfl rfl) .nil) rfl trivial rfl
  · intro rec1 k1 hk2 x1 i3
    obtain ⟨e10, e11⟩ := i3
    try dsimp only at *
    refine run_seq ?_
    refine run_seq ?_
    refine run_region (q_move .n (.t rfl) rfl <|
        q_move .n (.t rfl) rfl <|
        q_len .n (.t rfl) rfl len_map ss_24 rfl <|
        q_int .n (.t rfl) (.t rfl) rfl rfl <|
        Lex.nil) ?_
    refine run_cond (.t rfl) rfl (fun h4 => ?_) (fun h4 => ?_)
    · try simp only [Bool.and_eq_true, Bool.or_eq_true, Bool.not_eq_true', Bool.and_eq_false_iff, Bool.or_eq_false_iff, Bool.not_eq_false', decide_eq_true_eq, decide_eq_false_iff_not, beq_iff_eq, bne_iff_ne, beq_eq_false_iff_ne, bne_eq_false_iff_eq, Bool.true_and, ne_eq, Decidable.not_not, Int.not_lt, Int.not_le, Nat.not_lt, Nat.not_le, strB_nil, strB_nil', strB_nnil, strB_nnil'] at h4
      refine run_skip ?_
      refine run_seq ?_
      refine run_block ?_
      refine run_seq ?_
      refine run_region (q_move .n (.t rfl) rfl <|
          q_move .n (.t rfl) rfl <|
          q_idx_rm .n (.t rfl) (.t rfl) sl_24 (fun _ => by first | omega | assumption | (simp only [List.length_append, List.length_cons, List.length_nil, List.length_replicate, put_len] at * <;> omega) | ((exact hp1 _ (at_mem ⟨by omega, by omega⟩)); done) | ((exact hp1); done)) rfl <|
          q_ldN_ro .n (.t rfl) ag_54 rfl rfl rfl <|
          q_alloc (l := 200) .n rfl zv_54 rfl rfl <|
          q_st_boxm [.int .i64 (at' list x1).Number, .int .i64 (at' list x1).Parent, .str (at' list x1).Memo, .sl 2 ((at' list x1).State.map gSetting.v)] .n rfl (.t rfl) (.t rfl) rfl ts_54 rfl rfl <|
          Lex.nil) ?_
      refine run_seq ?_
      refine run_region (q_fld_ow .n (.t rfl) fo_54_0 rfl <|
          q_ld1_ow .n (.t rfl) rfl (.inr rfl) (fun _ => rfl) rfl ic_2 rfl <|
          q_move .n (.t rfl) rfl <|
          q_add .n (.t rfl) (.c rfl) (fun _ => by first | omega | assumption | (simp only [List.length_append, List.length_cons, List.length_nil, List.length_replicate, put_len] at * <;> omega) | ((exact hp1 _ (at_mem ⟨by omega, by omega⟩)); done) | ((exact hp1); done)) rfl <|
          q_int .n (.t rfl) (.t rfl) rfl rfl <|
          q_move .n (.t rfl) rfl <|
          q_fld_ow (.f rfl rfl) (.t rfl) fo_54_1 rfl <|
          q_ld1_ow (.f rfl rfl) (.u rfl id) rfl (.inr rfl) (fun _ => rfl) rfl ic_2 rfl <|
          q_move (.f rfl rfl) (.t rfl) rfl <|
          q_call0 (full := false) (.f rfl rfl) .f en_65 (.cons (.u rfl id) (.cons (.c rfl) (.cons (.u rfl id) .nil))) (.cons (.b (.a (.same rfl))) (.cons (.b (.a (.same rfl))) (.cons (.b (.a (.same rfl))) .nil))) (fun hg => c_spec_l00In (at' list x1).Parent 0 x1) rfl (fun h => Bool.noConfusion h) rfl <|
          q_not (.f rfl rfl) (.u rfl id) rfl <|
          q_or .n (.t rfl) (.u rfl id) rfl <|
          q_move .n (.t rfl) rfl <|
          q_fld_ow (.f rfl rfl) (.t rfl) fo_54_2 rfl <|
          q_ld1_ow (.f rfl rfl) (.u rfl id) rfl (.inr rfl) (fun _ => rfl) rfl ic_9 rfl <|
          q_call0 (full := false) (.f rfl rfl) .f en_66 (.cons (.u rfl id) .nil) (.cons (.b (.a (.same rfl))) .nil) (fun hg => c_spec_l27Memo (at' list x1).Memo (by simp only [Bool.and_eq_true, Bool.or_eq_true, Bool.not_eq_true', Bool.and_eq_false_iff, Bool.or_eq_false_iff, Bool.not_eq_false', decide_eq_true_eq, decide_eq_false_iff_not, beq_iff_eq, bne_iff_ne, beq_eq_false_iff_ne, bne_eq_false_iff_eq, Bool.true_and, ne_eq, Decidable.not_not, Int.not_lt, Int.not_le, Nat.not_lt, Nat.not_le, strB_nil, strB_nil', strB_nnil, strB_nnil'] at hg; first | omega | assumption | (simp only [List.length_append, List.length_cons, List.length_nil, List.length_replicate, put_len] at * <;> omega) | ((exact hp1 _ (at_mem ⟨by omega, by omega⟩)); done) | ((exact hp1); done))) rfl (fun h => Bool.noConfusion h) rfl <|
          q_not (.f rfl rfl) (.u rfl id) rfl <|
          q_or .n (.t rfl) (.u rfl id) rfl <|
          q_move .n (.t rfl) rfl <|
          q_fld_ow (.f rfl rfl) (.t rfl) fo_54_3 rfl <|
          q_ld1_ow (.f rfl rfl) (.u rfl id) rfl (.inr rfl) (fun _ => rfl) rfl ic_34 rfl <|
          q_call0 (full := false) (.f rfl rfl) .f en_67 (.cons (.u rfl id) .nil) (.cons (.b (.a (.same rfl))) .nil) (fun hg => c_spec_l27State (at' list x1).State) rfl (fun h => Bool.noConfusion h) rfl <|
          q_not (.f rfl rfl) (.u rfl id) rfl <|
          q_or .n (.t rfl) (.u rfl id) rfl <|
          Lex.nil) ?_
      refine run_cond (.t rfl) rfl (fun h5 => ?_) (fun h5 => ?_)
      · try simp only [Bool.and_eq_true, Bool.or_eq_true, Bool.not_eq_true', Bool.and_eq_false_iff, Bool.or_eq_false_iff, Bool.not_eq_false', decide_eq_true_eq, decide_eq_false_iff_not, beq_iff_eq, bne_iff_ne, beq_eq_false_iff_ne, bne_eq_false_iff_eq, Bool.true_and, ne_eq, Decidable.not_not, Int.not_lt, Int.not_le, Nat.not_lt, Nat.not_le, strB_nil, strB_nil', strB_nnil, strB_nnil'] at h5
        try with_reducible have hf0h5 := l00In_imp h5
        try with_reducible have hf1h5 := l00In_imp h5.1
        try with_reducible have hf2h5 := l00In_imp h5.2
        try with_reducible have hf3h5 := l00In_imp h5.1.1
        try with_reducible have hf4h5 := l00In_imp h5.1.2
        try with_reducible have hf5h5 := l00In_imp h5.2.1
        try with_reducible have hf6h5 := l00In_imp h5.2.2
        try with_reducible have hf7h5 := l00In_imp h5.1.1.1
        try with_reducible have hf8h5 := l00In_imp h5.1.1.2
        try with_reducible have hf9h5 := state_l24 h5
        try with_reducible have hf10h5 := state_l24 h5.1
        try with_reducible have hf11h5 := state_l24 h5.2
        try with_reducible have hf12h5 := state_l24 h5.1.1
        try with_reducible have hf13h5 := state_l24 h5.1.2
        try with_reducible have hf14h5 := state_l24 h5.2.1
        try with_reducible have hf15h5 := state_l24 h5.2.2
        try with_reducible have hf16h5 := state_l24 h5.1.1.1
        try with_reducible have hf17h5 := state_l24 h5.1.1.2
        try with_reducible have hf18h5 := memo_len h5
        try with_reducible have hf19h5 := memo_len h5.1
        try with_reducible have hf20h5 := memo_len h5.2
        try with_reducible have hf21h5 := memo_len h5.1.1
        try with_reducible have hf22h5 := memo_len h5.1.2
        try with_reducible have hf23h5 := memo_len h5.2.1
        try with_reducible have hf24h5 := memo_len h5.2.2
        try with_reducible have hf25h5 := memo_len h5.1.1.1
        try with_reducible have hf26h5 := memo_len h5.1.1.2
        refine run_seq ?_
        refine run_region (q_assign .n (.c rfl) rfl <|
            Lex.nil) ?_
        exact run_ret [] (.cons (.t rfl rfl) .nil) rfl trivial rfl
      · try simp only [Bool.and_eq_true, Bool.or_eq_true, Bool.not_eq_true', Bool.and_eq_false_iff, Bool.or_eq_false_iff, Bool.not_eq_false', decide_eq_true_eq, decide_eq_false_iff_not, beq_iff_eq, bne_iff_ne, beq_eq_false_iff_ne, bne_eq_false_iff_eq, Bool.true_and, ne_eq, Decidable.not_not, Int.not_lt, Int.not_le, Nat.not_lt, Nat.not_le, strB_nil, strB_nil', strB_nnil, strB_nnil'] at h5
        try with_reducible have hf0h5 := l00In_imp h5
        try with_reducible have hf1h5 := l00In_imp h5.1
        try with_reducible have hf2h5 := l00In_imp h5.2
        try with_reducible have hf3h5 := l00In_imp h5.1.1
        try with_reducible have hf4h5 := l00In_imp h5.1.2
        try with_reducible have hf5h5 := l00In_imp h5.2.1
        try with_reducible have hf6h5 := l00In_imp h5.2.2
        try with_reducible have hf7h5 := l00In_imp h5.1.1.1
        try with_reducible have hf8h5 := l00In_imp h5.1.1.2
        try with_reducible have hf9h5 := state_l24 h5
        try with_reducible have hf10h5 := state_l24 h5.1
        try with_reducible have hf11h5 := state_l24 h5.2
        try with_reducible have hf12h5 := state_l24 h5.1.1
        try with_reducible have hf13h5 := state_l24 h5.1.2
        try with_reducible have hf14h5 := state_l24 h5.2.1
        try with_reducible have hf15h5 := state_l24 h5.2.2
        try with_reducible have hf16h5 := state_l24 h5.1.1.1
        try with_reducible have hf17h5 := state_l24 h5.1.1.2
        try with_reducible have hf18h5 := memo_len h5
        try with_reducible have hf19h5 := memo_len h5.1
        try with_reducible have hf20h5 := memo_len h5.2
        try with_reducible have hf21h5 := memo_len h5.1.1
        try with_reducible have hf22h5 := memo_len h5.1.2
        try with_reducible have hf23h5 := memo_len h5.2.1
        try with_reducible have hf24h5 := memo_len h5.2.2
        try with_reducible have hf25h5 := memo_len h5.1.1.1
        try with_reducible have hf26h5 := memo_len h5.1.1.2
        refine run_skip ?_
        refine run_endB ?_
        refine run_region (q_move .n (.t rfl) rfl <|
            q_add .n (.t rfl) (.c rfl) (fun _ => by first | omega | assumption | (simp only [List.length_append, List.length_cons, List.length_nil, List.length_replicate, put_len] at * <;> omega) | ((exact hp1 _ (at_mem ⟨by omega, by omega⟩)); done) | ((exact hp1); done)) rfl <|
            q_assign .n (.t rfl) rfl <|
            Lex.nil) ?_
        exact run_again (x1 + 1) ⟨by first | omega | assumption | (simp only [List.length_append, List.length_cons, List.length_nil, List.length_replicate, put_len] at * <;> omega) | ((exact hp1 _ (at_mem ⟨by omega, by omega⟩)); done) | ((exact hp1); done), by first | omega | assumption | (simp only [List.length_append, List.length_cons, List.length_nil, List.length_replicate, put_len] at * <;> omega) | ((exact hp1 _ (at_mem ⟨by omega, by omega⟩)); done) | ((exact hp1); done)⟩ (by first | omega | assumption | (simp only [List.length_append, List.length_cons, List.length_nil, List.length_replicate, put_len] at * <;> omega) | ((exact hp1 _ (at_mem ⟨by omega, by omega⟩)); done) | ((exact hp1); done)) (sub_of [] ⟨rfl, rfl, trivial⟩ trivial rfl)
    · try simp only [Bool.and_eq_true, Bool.or_eq_true, Bool.not_eq_true', Bool.and_eq_false_iff, Bool.or_eq_false_iff, Bool.not_eq_false', decide_eq_true_eq, decide_eq_false_iff_not, beq_iff_eq, bne_iff_ne, beq_eq_false_iff_ne, bne_eq_false_iff_eq, Bool.true_and, ne_eq, Decidable.not_not, Int.not_lt, Int.not_le, Nat.not_lt, Nat.not_le, strB_nil, strB_nil', strB_nnil, strB_nnil'] at h4
      refine run_exit rfl ?_
      exact run_cont hk2 x1 ⟨by first | omega | assumption | (simp only [List.length_append, List.length_cons, List.length_nil, List.length_replicate, put_len] at * <;> omega) | ((exact hp1 _ (at_mem ⟨by omega, by omega⟩)); done) | ((exact hp1); done), by first | omega | assumption | (simp only [List.length_append, List.length_cons, List.length_nil, List.length_replicate, put_len] at * <;> omega) | ((exact hp1 _ (at_mem ⟨by omega, by omega⟩)); done) | ((exact hp1); done), by first | omega | assumption | (simp only [List.length_append, List.length_cons, List.length_nil, List.length_replicate, put_len] at * <;> omega) | ((exact hp1 _ (at_mem ⟨by omega, by omega⟩)); done) | ((exact hp1); done)⟩ (sub_of [] ⟨rfl, trivial⟩ trivial rfl)

/-! ### spec_ValidHistory -/
theorem c_spec_ValidHistory (list : List gVersion) (hp1 : ∀ v ∈ list, v.Memo.length ≤ 1048576) : Con Tryd.prog 25 [.sl 4 (list.map gVersion.v)] [] (.bool (m_spec_ValidHistory list)) ([]) := by
  refine con_intro (out := fun r : Bool => ((.bool r : V), ([] : List (Nat × Option O)))) (r := (m_spec_ValidHistory list)) Tryd.func25 rfl Tryd.ntmps25 rfl ?_
  refine run_fact (t := 0) rfl fun hl => ?_
  have l1 := hl; clear hl; simp only [List.length_map] at l1
  refine run_seq ?_
  refine run_region (q_assign .n (.c rfl) rfl <|
      Lex.nil) ?_
  refine run_seq ?_
  refine run_region (q_move .n (.t rfl) rfl <|
      q_call0 (full := false) .n .f en_28 (.cons (.t rfl) .nil) (.cons (.b (.a (.same rfl))) .nil) (fun hg => c_spec_l27Ok list (by first | omega | assumption | (simp only [List.length_append, List.length_cons, List.length_nil, List.length_replicate, put_len] at * <;> omega) | ((exact hp1 _ (at_mem ⟨by omega, by omega⟩)); done) | ((exact hp1); done))) rfl (fun h => Bool.noConfusion h) rfl <|
      q_assign .n (.t rfl) rfl <|
      Lex.nil) ?_
  exact run_ret [] (.cons (.t rfl rfl) .nil) rfl trivial rfl

/-! ### impl_VersionText -/
set_option maxHeartbeats 4000000 in
theorem c_impl_VersionText (v : gVersion) (hp1 : v.Memo.length ≤ 1048576) : Con Tryd.prog 26 [.st [.int .i64 v.Number, .int .i64 v.Parent, .str v.Memo, .sl 2 (v.State.map gSetting.v)]] [] (.str (m_impl_VersionText v)) ([]) := by
  refine con_intro (out := fun r : (List UInt8) => ((.str r : V), ([] : List (Nat × Option O)))) (r := (m_impl_VersionText v)) Tryd.func26 rfl Tryd.ntmps26 rfl ?_
  refine run_factS (t := 0) 3 rfl rfl fun hl => ?_
  have l1 := hl; clear hl; simp only [List.length_map] at l1
  refine run_seq ?_
  refine run_region (q_box (l := 200) .n rfl (.t rfl) rfl rfl rfl rfl <|
      q_assign .n (.c rfl) rfl <|
      Lex.nil) ?_
  refine run_seq ?_
  refine run_seq ?_
  refine run_region (q_fld_ow .n (.t rfl) fo_54_0 rfl <|
      q_ld1_ow .n (.t rfl) rfl (.inr rfl) (fun _ => rfl) rfl ic_2 rfl <|
      q_call0 (full := false) .n .f en_59 (.cons (.t rfl) (.cons (.c rfl) (.cons (.c rfl) .nil))) (.cons (.b (.a (.same rfl))) (.cons (.b (.a (.same rfl))) (.cons (.b (.a (.same rfl))) .nil))) (fun hg => c_impl_within v.Number 1 32) rfl (fun h => Bool.noConfusion h) rfl <|
      q_not .n (.t rfl) rfl <|
      q_move .n (.t rfl) rfl <|
      q_fld_ow (.f rfl rfl) (.t rfl) fo_54_1 rfl <|
      q_ld1_ow (.f rfl rfl) (.u rfl id) rfl (.inr rfl) (fun _ => rfl) rfl ic_2 rfl <|
      q_fld_ow (.f rfl rfl) (.t rfl) fo_54_0 rfl <|
      q_ld1_ow (.f rfl rfl) (.u rfl id) rfl (.inr rfl) (fun _ => rfl) rfl ic_2 rfl <|
      q_int (.f rfl rfl) (.u rfl id) (.c rfl) rfl rfl <|
      q_call0 (full := false) (.f rfl rfl) .f en_59 (.cons (.u rfl id) (.cons (.c rfl) (.cons (.u rfl id) .nil))) (.cons (.b (.a (.same rfl))) (.cons (.b (.a (.same rfl))) (.cons (.b (.a (.same rfl))) .nil))) (fun hg => c_impl_within v.Parent 0 (IntKind.wrap .i64 (v.Number - 1))) rfl (fun h => Bool.noConfusion h) rfl <|
      q_not (.f rfl rfl) (.u rfl id) rfl <|
      q_or .n (.t rfl) (.u rfl id) rfl <|
      q_move .n (.t rfl) rfl <|
      q_fld_ow (.f rfl rfl) (.t rfl) fo_54_2 rfl <|
      q_ld1_ow (.f rfl rfl) (.u rfl id) rfl (.inr rfl) (fun _ => rfl) rfl ic_9 rfl <|
      q_call0 (full := false) (.f rfl rfl) .f en_58 (.cons (.u rfl id) .nil) (.cons (.b (.a (.same rfl))) .nil) (fun hg => c_impl_memoValid v.Memo) rfl (fun h => Bool.noConfusion h) rfl <|
      q_not (.f rfl rfl) (.u rfl id) rfl <|
      q_or .n (.t rfl) (.u rfl id) rfl <|
      q_move .n (.t rfl) rfl <|
      q_fld_ow (.f rfl rfl) (.t rfl) fo_54_3 rfl <|
      q_ld1_ow (.f rfl rfl) (.u rfl id) rfl (.inr rfl) (fun _ => rfl) rfl ic_34 rfl <|
      q_call0 (full := false) (.f rfl rfl) .f en_46 (.cons (.u rfl id) .nil) (.cons (.b (.a (.same rfl))) .nil) (fun hg => c_impl_ValidState v.State) rfl (fun h => Bool.noConfusion h) rfl <|
      q_not (.f rfl rfl) (.u rfl id) rfl <|
      q_or .n (.t rfl) (.u rfl id) rfl <|
      Lex.nil) ?_
  refine run_cond (.t rfl) rfl (fun h2 => ?_) (fun h2 => ?_)
  · try simp only [Bool.and_eq_true, Bool.or_eq_true, Bool.not_eq_true', Bool.and_eq_false_iff, Bool.or_eq_false_iff, Bool.not_eq_false', decide_eq_true_eq, decide_eq_false_iff_not, beq_iff_eq, bne_iff_ne, beq_eq_false_iff_ne, bne_eq_false_iff_eq, Bool.true_and, ne_eq, Decidable.not_not, Int.not_lt, Int.not_le, Nat.not_lt, Nat.not_le, strB_nil, strB_nil', strB_nnil, strB_nnil'] at h2
    try with_reducible have hf0h2 := within_imp h2
    try with_reducible have hf1h2 := within_imp h2.1
    try with_reducible have hf2h2 := within_imp h2.2
    try with_reducible have hf3h2 := within_imp h2.1.1
    try with_reducible have hf4h2 := within_imp h2.1.2
    try with_reducible have hf5h2 := within_imp h2.2.1
    try with_reducible have hf6h2 := within_imp h2.2.2
    try with_reducible have hf7h2 := within_imp h2.1.1.1
    try with_reducible have hf8h2 := within_imp h2.1.1.2
    try with_reducible have hf9h2 := state_l24I h2
    try with_reducible have hf10h2 := state_l24I h2.1
    try with_reducible have hf11h2 := state_l24I h2.2
    try with_reducible have hf12h2 := state_l24I h2.1.1
    try with_reducible have hf13h2 := state_l24I h2.1.2
    try with_reducible have hf14h2 := state_l24I h2.2.1
    try with_reducible have hf15h2 := state_l24I h2.2.2
    try with_reducible have hf16h2 := state_l24I h2.1.1.1
    try with_reducible have hf17h2 := state_l24I h2.1.1.2
    try with_reducible have hf18h2 := state_inI h2
    try with_reducible have hf19h2 := state_inI h2.1
    try with_reducible have hf20h2 := state_inI h2.2
    try with_reducible have hf21h2 := state_inI h2.1.1
    try with_reducible have hf22h2 := state_inI h2.1.2
    try with_reducible have hf23h2 := state_inI h2.2.1
    try with_reducible have hf24h2 := state_inI h2.2.2
    try with_reducible have hf25h2 := state_inI h2.1.1.1
    try with_reducible have hf26h2 := state_inI h2.1.1.2
    try with_reducible have hf27h2 := memo_lenI h2
    try with_reducible have hf28h2 := memo_lenI h2.1
    try with_reducible have hf29h2 := memo_lenI h2.2
    try with_reducible have hf30h2 := memo_lenI h2.1.1
    try with_reducible have hf31h2 := memo_lenI h2.1.2
    try with_reducible have hf32h2 := memo_lenI h2.2.1
    try with_reducible have hf33h2 := memo_lenI h2.2.2
    try with_reducible have hf34h2 := memo_lenI h2.1.1.1
    try with_reducible have hf35h2 := memo_lenI h2.1.1.2
    refine run_seq ?_
    refine run_region (q_assign .n (.c rfl) rfl <|
        Lex.nil) ?_
    exact run_ret [] (.cons (.t rfl rfl) .nil) rfl trivial rfl
  · try simp only [Bool.and_eq_true, Bool.or_eq_true, Bool.not_eq_true', Bool.and_eq_false_iff, Bool.or_eq_false_iff, Bool.not_eq_false', decide_eq_true_eq, decide_eq_false_iff_not, beq_iff_eq, bne_iff_ne, beq_eq_false_iff_ne, bne_eq_false_iff_eq, Bool.true_and, ne_eq, Decidable.not_not, Int.not_lt, Int.not_le, Nat.not_lt, Nat.not_le, strB_nil, strB_nil', strB_nnil, strB_nnil'] at h2
    try with_reducible have hf0h2 := within_imp h2
    try with_reducible have hf1h2 := within_imp h2.1
    try with_reducible have hf2h2 := within_imp h2.2
    try with_reducible have hf3h2 := within_imp h2.1.1
    try with_reducible have hf4h2 := within_imp h2.1.2
    try with_reducible have hf5h2 := within_imp h2.2.1
    try with_reducible have hf6h2 := within_imp h2.2.2
    try with_reducible have hf7h2 := within_imp h2.1.1.1
    try with_reducible have hf8h2 := within_imp h2.1.1.2
    try with_reducible have hf9h2 := state_l24I h2
    try with_reducible have hf10h2 := state_l24I h2.1
    try with_reducible have hf11h2 := state_l24I h2.2
    try with_reducible have hf12h2 := state_l24I h2.1.1
    try with_reducible have hf13h2 := state_l24I h2.1.2
    try with_reducible have hf14h2 := state_l24I h2.2.1
    try with_reducible have hf15h2 := state_l24I h2.2.2
    try with_reducible have hf16h2 := state_l24I h2.1.1.1
    try with_reducible have hf17h2 := state_l24I h2.1.1.2
    try with_reducible have hf18h2 := state_inI h2
    try with_reducible have hf19h2 := state_inI h2.1
    try with_reducible have hf20h2 := state_inI h2.2
    try with_reducible have hf21h2 := state_inI h2.1.1
    try with_reducible have hf22h2 := state_inI h2.1.2
    try with_reducible have hf23h2 := state_inI h2.2.1
    try with_reducible have hf24h2 := state_inI h2.2.2
    try with_reducible have hf25h2 := state_inI h2.1.1.1
    try with_reducible have hf26h2 := state_inI h2.1.1.2
    try with_reducible have hf27h2 := memo_lenI h2
    try with_reducible have hf28h2 := memo_lenI h2.1
    try with_reducible have hf29h2 := memo_lenI h2.2
    try with_reducible have hf30h2 := memo_lenI h2.1.1
    try with_reducible have hf31h2 := memo_lenI h2.1.2
    try with_reducible have hf32h2 := memo_lenI h2.2.1
    try with_reducible have hf33h2 := memo_lenI h2.2.2
    try with_reducible have hf34h2 := memo_lenI h2.1.1.1
    try with_reducible have hf35h2 := memo_lenI h2.1.1.2
    refine run_skip ?_
    refine run_seq ?_
    refine run_draw fmo (q_fld_ow .n (.t rfl) fo_54_0 rfl <|
        q_ld1_ow .n (.t rfl) rfl (.inr rfl) (fun _ => rfl) rfl ic_2 rfl <|
        q_call0 (full := false) .n .f en_36 (.cons (.t rfl) .nil) (.cons (.b (.a (.same rfl))) .nil) (fun hg => c_impl_Decimal v.Number (by first | omega | assumption | (simp only [List.length_append, List.length_cons, List.length_nil, List.length_replicate, put_len] at * <;> omega) | (((have hw := wr64_le (n := v.Number - 1); omega)); done) | (((have hw := wr64_le (n := v.Number - 1); have h1_ := decimal_len (n := v.Number) (by omega); have h2_ := decimal_len (n := v.Parent) (by omega); simp <;> omega)); done) | (((have hS : StIn v.State := (by assumption); have hq := at_all (i := x1.2) hS.2 (by omega); have hl := hS.1; first | omega | (have hd := decimal_len (n := (at' v.State x1.2).Value) (by omega); simp <;> omega))); done) | (((have hS : StIn v.State := (by assumption); have hl := hS.1; first | omega | (simp <;> omega))); done))) rfl (fun h => Bool.noConfusion h) rfl <|
        q_strcat .n (.t rfl) (.c rfl) (fun _ => by first | omega | assumption | (simp only [List.length_append, List.length_cons, List.length_nil, List.length_replicate, put_len] at * <;> omega) | (((have hw := wr64_le (n := v.Number - 1); omega)); done) | (((have hw := wr64_le (n := v.Number - 1); have h1_ := decimal_len (n := v.Number) (by omega); have h2_ := decimal_len (n := v.Parent) (by omega); simp <;> omega)); done) | (((have hS : StIn v.State := (by assumption); have hq := at_all (i := x1.2) hS.2 (by omega); have hl := hS.1; first | omega | (have hd := decimal_len (n := (at' v.State x1.2).Value) (by omega); simp <;> omega))); done) | (((have hS : StIn v.State := (by assumption); have hl := hS.1; first | omega | (simp <;> omega))); done)) rfl <|
        q_fld_ow .n (.t rfl) fo_54_1 rfl <|
        q_ld1_ow .n (.t rfl) rfl (.inr rfl) (fun _ => rfl) rfl ic_2 rfl <|
        q_call0 (full := false) .n .f en_36 (.cons (.t rfl) .nil) (.cons (.b (.a (.same rfl))) .nil) (fun hg => c_impl_Decimal v.Parent (by first | omega | assumption | (simp only [List.length_append, List.length_cons, List.length_nil, List.length_replicate, put_len] at * <;> omega) | (((have hw := wr64_le (n := v.Number - 1); omega)); done) | (((have hw := wr64_le (n := v.Number - 1); have h1_ := decimal_len (n := v.Number) (by omega); have h2_ := decimal_len (n := v.Parent) (by omega); simp <;> omega)); done) | (((have hS : StIn v.State := (by assumption); have hq := at_all (i := x1.2) hS.2 (by omega); have hl := hS.1; first | omega | (have hd := decimal_len (n := (at' v.State x1.2).Value) (by omega); simp <;> omega))); done) | (((have hS : StIn v.State := (by assumption); have hl := hS.1; first | omega | (simp <;> omega))); done))) rfl (fun h => Bool.noConfusion h) rfl <|
        q_strcat .n (.t rfl) (.t rfl) (fun _ => by first | omega | assumption | (simp only [List.length_append, List.length_cons, List.length_nil, List.length_replicate, put_len] at * <;> omega) | (((have hw := wr64_le (n := v.Number - 1); omega)); done) | (((have hw := wr64_le (n := v.Number - 1); have h1_ := decimal_len (n := v.Number) (by omega); have h2_ := decimal_len (n := v.Parent) (by omega); simp <;> omega)); done) | (((have hS : StIn v.State := (by assumption); have hq := at_all (i := x1.2) hS.2 (by omega); have hl := hS.1; first | omega | (have hd := decimal_len (n := (at' v.State x1.2).Value) (by omega); simp <;> omega))); done) | (((have hS : StIn v.State := (by assumption); have hl := hS.1; first | omega | (simp <;> omega))); done)) rfl <|
        q_assign .n (.t rfl) rfl <|
        Lex.nil) (by kernel_rfl) ?_
    refine run_seq ?_
    refine run_seq ?_
    refine run_region (q_fld_ow .n (.t rfl) fo_54_3 rfl <|
        q_ld1_ow .n (.t rfl) rfl (.inr rfl) (fun _ => rfl) rfl ic_34 rfl <|
        q_len .n (.t rfl) rfl len_map ss_34 rfl <|
        q_move .n (.c rfl) rfl <|
        Lex.nil) ?_
    refine run_block ?_
    refine run_LOOP (m_impl_VersionText_b1 v) _ _ _ rfl (fun (x1 : (List UInt8) × Int) => 0 ≤ x1.2 ∧ x1.2 ≤ (v.State.length : Int) ∧ (x1.1.length : Int) ≤ 100 + 100 * x1.2) (fun x1 => 0 ≤ x1.2 ∧ x1.2 ≤ (v.State.length : Int) ∧ (x1.1.length : Int) ≤ 100 + 100 * x1.2 ∧ (v.State.length : Int) ≤ x1.2) (fun x1 => ((v.State.length : Int) - x1.2 : Int).toNat) (fun x1 => ⟨[(1, some (true, .op 200 0 0 0)), (3, some (true, .str x1.1)), (40, some (true, .sl 2 (v.State.map gSetting.v))), (41, some (true, .int .i64 (v.State.length : Int))), (42, some (true, .int .i64 x1.2))], [(200, some (.box 54 [.int .i64 v.Number, .int .i64 v.Parent, .str v.Memo, .sl 2 (v.State.map gSetting.v)]))]⟩) (fun x1 => ⟨[(1, some (true, .op 200 0 0 0)), (3, some (true, .str x1.1))], [(200, some (.box 54 [.int .i64 v.Number, .int .i64 v.Parent, .str v.Memo, .sl 2 (v.State.map gSetting.v)]))]⟩) ⟨by first | omega | assumption | (simp only [List.length_append, List.length_cons, List.length_nil, List.length_replicate, put_len] at * <;> omega) | (((have hw := wr64_le (n := v.Number - 1); omega)); done) | (((have hw := wr64_le (n := v.Number - 1); have h1_ := decimal_len (n := v.Number) (by omega); have h2_ := decimal_len (n := v.Parent) (by omega); simp <;> omega)); done) | (((have hS : StIn v.State := (by assumption); have hq := at_all (i := x1.2) hS.2 (by omega); have hl := hS.1; first | omega | (have hd := decimal_len (n := (at' v.State x1.2).Value) (by omega); simp <;> omega))); done) | (((have hS : StIn v.State := (by assumption); have hl := hS.1; first | omega | (simp <;> omega))); done), by first | omega | assumption | (simp only [List.length_append, List.length_cons, List.length_nil, List.length_replicate, put_len] at * <;> omega) | (((have hw := wr64_le (n := v.Number - 1); omega)); done) | (((have hw := wr64_le (n := v.Number - 1); have h1_ := decimal_len (n := v.Number) (by omega); have h2_ := decimal_len (n := v.Parent) (by omega); simp <;> omega)); done) | (((have hS : StIn v.State := (by assumption); have hq := at_all (i := x1.2) hS.2 (by omega); have hl := hS.1; first | omega | (have hd := decimal_len (n := (at' v.State x1.2).Value) (by omega); simp <;> omega))); done) | (((have hS : StIn v.State := (by assumption); have hl := hS.1; first | omega | (simp <;> omega))); done), by first | omega | assumption | (simp only [List.length_append, List.length_cons, List.length_nil, List.length_replicate, put_len] at * <;> omega) | (((have hw := wr64_le (n := v.Number - 1); omega)); done) | (((have hw := wr64_le (n := v.Number - 1); have h1_ := decimal_len (n := v.Number) (by omega); have h2_ := decimal_len (n := v.Parent) (by omega); simp <;> omega)); done) | (((have hS : StIn v.State := (by assumption); have hq := at_all (i := x1.2) hS.2 (by omega); have hl := hS.1; first | omega | (have hd := decimal_len (n := (at' v.State x1.2).Value) (by omega); simp <;> omega))); done) | (((have hS : StIn v.State := (by assumption); have hl := hS.1; first | omega | (simp <;> omega))); done)⟩ (by first | omega | assumption | (simp only [List.length_append, List.length_cons, List.length_nil, List.length_replicate, put_len] at * <;> omega) | (((have hw := wr64_le (n := v.Number - 1); omega)); done) | (((have hw := wr64_le (n := v.Number - 1); have h1_ := decimal_len (n := v.Number) (by omega); have h2_ := decimal_len (n := v.Parent) (by omega); simp <;> omega)); done) | (((have hS : StIn v.State := (by assumption); have hq := at_all (i := x1.2) hS.2 (by omega); have hl := hS.1; first | omega | (have hd := decimal_len (n := (at' v.State x1.2).Value) (by omega); simp <;> omega))); done) | (((have hS : StIn v.State := (by assumption); have hl := hS.1; first | omega | (simp <;> omega))); done)) (sub_of [] ⟨rfl, rfl, rfl, rfl, rfl, trivial⟩ ⟨rfl, trivial⟩ rfl) ?_ ?_
    · intro x1 i6
      obtain ⟨e8, e9, e10, e11⟩ := i6
      try dsimp only at *
      refine run_seq ?_
      refine run_seq ?_
      refine run_region (q_fld_ow .n (.t rfl) fo_54_2 rfl <|
          q_ld1_ow .n (.t rfl) rfl (.inr rfl) (fun _ => rfl) rfl ic_9 rfl <|
          q_strcmp .n (.t rfl) (.c rfl) rfl rfl <|
          Lex.nil) ?_
      refine run_cond (.t rfl) rfl (fun h7 => ?_) (fun h7 => ?_)
      · try simp only [Bool.and_eq_true, Bool.or_eq_true, Bool.not_eq_true', Bool.and_eq_false_iff, Bool.or_eq_false_iff, Bool.not_eq_false', decide_eq_true_eq, decide_eq_false_iff_not, beq_iff_eq, bne_iff_ne, beq_eq_false_iff_ne, bne_eq_false_iff_eq, Bool.true_and, ne_eq, Decidable.not_not, Int.not_lt, Int.not_le, Nat.not_lt, Nat.not_le, strB_nil, strB_nil', strB_nnil, strB_nnil'] at h7
        refine run_region (q_move .n (.t rfl) rfl <|
            q_fld_ow .n (.t rfl) fo_54_2 rfl <|
            q_ld1_ow .n (.t rfl) rfl (.inr rfl) (fun _ => rfl) rfl ic_9 rfl <|
            q_strcat .n (.c rfl) (.t rfl) (fun _ => by first | omega | assumption | (simp only [List.length_append, List.length_cons, List.length_nil, List.length_replicate, put_len] at * <;> omega) | (((have hw := wr64_le (n := v.Number - 1); omega)); done) | (((have hw := wr64_le (n := v.Number - 1); have h1_ := decimal_len (n := v.Number) (by omega); have h2_ := decimal_len (n := v.Parent) (by omega); simp <;> omega)); done) | (((have hS : StIn v.State := (by assumption); have hq := at_all (i := x1.2) hS.2 (by omega); have hl := hS.1; first | omega | (have hd := decimal_len (n := (at' v.State x1.2).Value) (by omega); simp <;> omega))); done) | (((have hS : StIn v.State := (by assumption); have hl := hS.1; first | omega | (simp <;> omega))); done)) rfl <|
            q_strcat .n (.t rfl) (.t rfl) (fun _ => by first | omega | assumption | (simp only [List.length_append, List.length_cons, List.length_nil, List.length_replicate, put_len] at * <;> omega) | (((have hw := wr64_le (n := v.Number - 1); omega)); done) | (((have hw := wr64_le (n := v.Number - 1); have h1_ := decimal_len (n := v.Number) (by omega); have h2_ := decimal_len (n := v.Parent) (by omega); simp <;> omega)); done) | (((have hS : StIn v.State := (by assumption); have hq := at_all (i := x1.2) hS.2 (by omega); have hl := hS.1; first | omega | (have hd := decimal_len (n := (at' v.State x1.2).Value) (by omega); simp <;> omega))); done) | (((have hS : StIn v.State := (by assumption); have hl := hS.1; first | omega | (simp <;> omega))); done)) rfl <|
            q_assign .n (.t rfl) rfl <|
            Lex.nil) ?_
        refine run_seq ?_
        refine run_region (q_move .n (.t rfl) rfl <|
            q_assign .n (.t rfl) rfl <|
            Lex.nil) ?_
        exact run_ret [] (.cons (.t rfl rfl) .nil) rfl trivial rfl
      · try simp only [Bool.and_eq_true, Bool.or_eq_true, Bool.not_eq_true', Bool.and_eq_false_iff, Bool.or_eq_false_iff, Bool.not_eq_false', decide_eq_true_eq, decide_eq_false_iff_not, beq_iff_eq, bne_iff_ne, beq_eq_false_iff_ne, bne_eq_false_iff_eq, Bool.true_and, ne_eq, Decidable.not_not, Int.not_lt, Int.not_le, Nat.not_lt, Nat.not_le, strB_nil, strB_nil', strB_nnil, strB_nnil'] at h7
        refine run_skip ?_
        refine run_seq ?_
        refine run_region (q_move .n (.t rfl) rfl <|
            q_assign .n (.t rfl) rfl <|
            Lex.nil) ?_
        exact run_ret [] (.cons (.t rfl rfl) .nil) rfl trivial rfl
    · intro rec1 k1 hk3 x1 i4
      obtain ⟨e12, e13, e14⟩ := i4
      try dsimp only at *
      refine run_seq ?_
      refine run_region (q_int .n (.t rfl) (.t rfl) rfl rfl <|
          Lex.nil) ?_
      refine run_seq ?_
      refine run_cond (.t rfl) rfl (fun h5 => ?_) (fun h5 => ?_)
      · try simp only [Bool.and_eq_true, Bool.or_eq_true, Bool.not_eq_true', Bool.and_eq_false_iff, Bool.or_eq_false_iff, Bool.not_eq_false', decide_eq_true_eq, decide_eq_false_iff_not, beq_iff_eq, bne_iff_ne, beq_eq_false_iff_ne, bne_eq_false_iff_eq, Bool.true_and, ne_eq, Decidable.not_not, Int.not_lt, Int.not_le, Nat.not_lt, Nat.not_le, strB_nil, strB_nil', strB_nnil, strB_nnil'] at h5
        refine run_skip ?_
        refine run_seq ?_
        refine run_block ?_
        refine run_seq ?_
        refine run_region (q_idx_rm .n (.t rfl) (.t rfl) sl_34 (fun _ => by first | omega | assumption | (simp only [List.length_append, List.length_cons, List.length_nil, List.length_replicate, put_len] at * <;> omega) | (((have hw := wr64_le (n := v.Number - 1); omega)); done) | (((have hw := wr64_le (n := v.Number - 1); have h1_ := decimal_len (n := v.Number) (by omega); have h2_ := decimal_len (n := v.Parent) (by omega); simp <;> omega)); done) | (((have hS : StIn v.State := (by assumption); have hq := at_all (i := x1.2) hS.2 (by omega); have hl := hS.1; first | omega | (have hd := decimal_len (n := (at' v.State x1.2).Value) (by omega); simp <;> omega))); done) | (((have hS : StIn v.State := (by assumption); have hl := hS.1; first | omega | (simp <;> omega))); done)) rfl <|
            q_ldN_ro .n (.t rfl) ag_75 rfl rfl rfl <|
            q_alloc (l := 201) .n rfl zv_75 rfl rfl <|
            q_st_boxm [.str (at' v.State x1.2).Name, .int .i64 (at' v.State x1.2).Value] .n rfl (.t rfl) (.t rfl) rfl ts_75 rfl rfl <|
            Lex.nil) ?_
        refine run_draw fmo (q_move .n (.t rfl) rfl <|
            q_fld_ow .n (.t rfl) fo_75_0 rfl <|
            q_ld1_ow .n (.t rfl) rfl (.inr rfl) (fun _ => rfl) rfl ic_9 rfl <|
            q_strcat .n (.c rfl) (.t rfl) (fun _ => by first | omega | assumption | (simp only [List.length_append, List.length_cons, List.length_nil, List.length_replicate, put_len] at * <;> omega) | (((have hw := wr64_le (n := v.Number - 1); omega)); done) | (((have hw := wr64_le (n := v.Number - 1); have h1_ := decimal_len (n := v.Number) (by omega); have h2_ := decimal_len (n := v.Parent) (by omega); simp <;> omega)); done) | (((have hS : StIn v.State := (by assumption); have hq := at_all (i := x1.2) hS.2 (by omega); have hl := hS.1; first | omega | (have hd := decimal_len (n := (at' v.State x1.2).Value) (by omega); simp <;> omega))); done) | (((have hS : StIn v.State := (by assumption); have hl := hS.1; first | omega | (simp <;> omega))); done)) rfl <|
            q_strcat .n (.t rfl) (.c rfl) (fun _ => by first | omega | assumption | (simp only [List.length_append, List.length_cons, List.length_nil, List.length_replicate, put_len] at * <;> omega) | (((have hw := wr64_le (n := v.Number - 1); omega)); done) | (((have hw := wr64_le (n := v.Number - 1); have h1_ := decimal_len (n := v.Number) (by omega); have h2_ := decimal_len (n := v.Parent) (by omega); simp <;> omega)); done) | (((have hS : StIn v.State := (by assumption); have hq := at_all (i := x1.2) hS.2 (by omega); have hl := hS.1; first | omega | (have hd := decimal_len (n := (at' v.State x1.2).Value) (by omega); simp <;> omega))); done) | (((have hS : StIn v.State := (by assumption); have hl := hS.1; first | omega | (simp <;> omega))); done)) rfl <|
            q_fld_ow .n (.t rfl) fo_75_1 rfl <|
            q_ld1_ow .n (.t rfl) rfl (.inr rfl) (fun _ => rfl) rfl ic_2 rfl <|
            q_call0 (full := false) .n .f en_36 (.cons (.t rfl) .nil) (.cons (.b (.a (.same rfl))) .nil) (fun hg => c_impl_Decimal (at' v.State x1.2).Value (by first | omega | assumption | (simp only [List.length_append, List.length_cons, List.length_nil, List.length_replicate, put_len] at * <;> omega) | (((have hw := wr64_le (n := v.Number - 1); omega)); done) | (((have hw := wr64_le (n := v.Number - 1); have h1_ := decimal_len (n := v.Number) (by omega); have h2_ := decimal_len (n := v.Parent) (by omega); simp <;> omega)); done) | (((have hS : StIn v.State := (by assumption); have hq := at_all (i := x1.2) hS.2 (by omega); have hl := hS.1; first | omega | (have hd := decimal_len (n := (at' v.State x1.2).Value) (by omega); simp <;> omega))); done) | (((have hS : StIn v.State := (by assumption); have hl := hS.1; first | omega | (simp <;> omega))); done))) rfl (fun h => Bool.noConfusion h) rfl <|
            q_strcat .n (.t rfl) (.t rfl) (fun _ => by first | omega | assumption | (simp only [List.length_append, List.length_cons, List.length_nil, List.length_replicate, put_len] at * <;> omega) | (((have hw := wr64_le (n := v.Number - 1); omega)); done) | (((have hw := wr64_le (n := v.Number - 1); have h1_ := decimal_len (n := v.Number) (by omega); have h2_ := decimal_len (n := v.Parent) (by omega); simp <;> omega)); done) | (((have hS : StIn v.State := (by assumption); have hq := at_all (i := x1.2) hS.2 (by omega); have hl := hS.1; first | omega | (have hd := decimal_len (n := (at' v.State x1.2).Value) (by omega); simp <;> omega))); done) | (((have hS : StIn v.State := (by assumption); have hl := hS.1; first | omega | (simp <;> omega))); done)) rfl <|
            q_strcat .n (.t rfl) (.t rfl) (fun _ => by first | omega | assumption | (simp only [List.length_append, List.length_cons, List.length_nil, List.length_replicate, put_len] at * <;> omega) | (((have hw := wr64_le (n := v.Number - 1); omega)); done) | (((have hw := wr64_le (n := v.Number - 1); have h1_ := decimal_len (n := v.Number) (by omega); have h2_ := decimal_len (n := v.Parent) (by omega); simp <;> omega)); done) | (((have hS : StIn v.State := (by assumption); have hq := at_all (i := x1.2) hS.2 (by omega); have hl := hS.1; first | omega | (have hd := decimal_len (n := (at' v.State x1.2).Value) (by omega); simp <;> omega))); done) | (((have hS : StIn v.State := (by assumption); have hl := hS.1; first | omega | (simp <;> omega))); done)) rfl <|
            q_assign .n (.t rfl) rfl <|
            Lex.nil) (by kernel_rfl) ?_
        refine run_endB ?_
        refine run_region (q_add .n (.t rfl) (.c rfl) (fun _ => by first | omega | assumption | (simp only [List.length_append, List.length_cons, List.length_nil, List.length_replicate, put_len] at * <;> omega) | (((have hw := wr64_le (n := v.Number - 1); omega)); done) | (((have hw := wr64_le (n := v.Number - 1); have h1_ := decimal_len (n := v.Number) (by omega); have h2_ := decimal_len (n := v.Parent) (by omega); simp <;> omega)); done) | (((have hS : StIn v.State := (by assumption); have hq := at_all (i := x1.2) hS.2 (by omega); have hl := hS.1; first | omega | (have hd := decimal_len (n := (at' v.State x1.2).Value) (by omega); simp <;> omega))); done) | (((have hS : StIn v.State := (by assumption); have hl := hS.1; first | omega | (simp <;> omega))); done)) rfl <|
            q_move .n (.t rfl) rfl <|
            Lex.nil) ?_
        exact run_again (x1.1 ++ (((([32] : List UInt8) ++ (at' v.State x1.2).Name) ++ ([61] : List UInt8)) ++ (m_impl_Decimal (at' v.State x1.2).Value)), x1.2 + 1) ⟨by first | omega | assumption | (simp only [List.length_append, List.length_cons, List.length_nil, List.length_replicate, put_len] at * <;> omega) | (((have hw := wr64_le (n := v.Number - 1); omega)); done) | (((have hw := wr64_le (n := v.Number - 1); have h1_ := decimal_len (n := v.Number) (by omega); have h2_ := decimal_len (n := v.Parent) (by omega); simp <;> omega)); done) | (((have hS : StIn v.State := (by assumption); have hq := at_all (i := x1.2) hS.2 (by omega); have hl := hS.1; first | omega | (have hd := decimal_len (n := (at' v.State x1.2).Value) (by omega); simp <;> omega))); done) | (((have hS : StIn v.State := (by assumption); have hl := hS.1; first | omega | (simp <;> omega))); done), by first | omega | assumption | (simp only [List.length_append, List.length_cons, List.length_nil, List.length_replicate, put_len] at * <;> omega) | (((have hw := wr64_le (n := v.Number - 1); omega)); done) | (((have hw := wr64_le (n := v.Number - 1); have h1_ := decimal_len (n := v.Number) (by omega); have h2_ := decimal_len (n := v.Parent) (by omega); simp <;> omega)); done) | (((have hS : StIn v.State := (by assumption); have hq := at_all (i := x1.2) hS.2 (by omega); have hl := hS.1; first | omega | (have hd := decimal_len (n := (at' v.State x1.2).Value) (by omega); simp <;> omega))); done) | (((have hS : StIn v.State := (by assumption); have hl := hS.1; first | omega | (simp <;> omega))); done), by first | omega | assumption | (simp only [List.length_append, List.length_cons, List.length_nil, List.length_replicate, put_len] at * <;> omega) | (((have hw := wr64_le (n := v.Number - 1); omega)); done) | (((have hw := wr64_le (n := v.Number - 1); have h1_ := decimal_len (n := v.Number) (by omega); have h2_ := decimal_len (n := v.Parent) (by omega); simp <;> omega)); done) | (((have hS : StIn v.State := (by assumption); have hq := at_all (i := x1.2) hS.2 (by omega); have hl := hS.1; first | omega | (have hd := decimal_len (n := (at' v.State x1.2).Value) (by omega); simp <;> omega))); done) | (((have hS : StIn v.State := (by assumption); have hl := hS.1; first | omega | (simp <;> omega))); done)⟩ (by first | omega | assumption | (simp only [List.length_append, List.length_cons, List.length_nil, List.length_replicate, put_len] at * <;> omega) | (((have hw := wr64_le (n := v.Number - 1); omega)); done) | (((have hw := wr64_le (n := v.Number - 1); have h1_ := decimal_len (n := v.Number) (by omega); have h2_ := decimal_len (n := v.Parent) (by omega); simp <;> omega)); done) | (((have hS : StIn v.State := (by assumption); have hq := at_all (i := x1.2) hS.2 (by omega); have hl := hS.1; first | omega | (have hd := decimal_len (n := (at' v.State x1.2).Value) (by omega); simp <;> omega))); done) | (((have hS : StIn v.State := (by assumption); have hl := hS.1; first | omega | (simp <;> omega))); done)) (sub_of [] ⟨rfl, rfl, rfl, rfl, rfl, trivial⟩ ⟨rfl, trivial⟩ rfl)
      · try simp only [Bool.and_eq_true, Bool.or_eq_true, Bool.not_eq_true', Bool.and_eq_false_iff, Bool.or_eq_false_iff, Bool.not_eq_false', decide_eq_true_eq, decide_eq_false_iff_not, beq_iff_eq, bne_iff_ne, beq_eq_false_iff_ne, bne_eq_false_iff_eq, Bool.true_and, ne_eq, Decidable.not_not, Int.not_lt, Int.not_le, Nat.not_lt, Nat.not_le, strB_nil, strB_nil', strB_nnil, strB_nnil'] at h5
        refine run_exit rfl ?_
        exact run_cont hk3 (x1.1, x1.2) ⟨by first | omega | assumption | (simp only [List.length_append, List.length_cons, List.length_nil, List.length_replicate, put_len] at * <;> omega) | (((have hw := wr64_le (n := v.Number - 1); omega)); done) | (((have hw := wr64_le (n := v.Number - 1); have h1_ := decimal_len (n := v.Number) (by omega); have h2_ := decimal_len (n := v.Parent) (by omega); simp <;> omega)); done) | (((have hS : StIn v.State := (by assumption); have hq := at_all (i := x1.2) hS.2 (by omega); have hl := hS.1; first | omega | (have hd := decimal_len (n := (at' v.State x1.2).Value) (by omega); simp <;> omega))); done) | (((have hS : StIn v.State := (by assumption); have hl := hS.1; first | omega | (simp <;> omega))); done), by first | omega | assumption | (simp only [List.length_append, List.length_cons, List.length_nil, List.length_replicate, put_len] at * <;> omega) | (((have hw := wr64_le (n := v.Number - 1); omega)); done) | (((have hw := wr64_le (n := v.Number - 1); have h1_ := decimal_len (n := v.Number) (by omega); have h2_ := decimal_len (n := v.Parent) (by omega); simp <;> omega)); done) | (((have hS : StIn v.State := (by assumption); have hq := at_all (i := x1.2) hS.2 (by omega); have hl := hS.1; first | omega | (have hd := decimal_len (n := (at' v.State x1.2).Value) (by omega); simp <;> omega))); done) | (((have hS : StIn v.State := (by assumption); have hl := hS.1; first | omega | (simp <;> omega))); done), by first | omega | assumption | (simp only [List.length_append, List.length_cons, List.length_nil, List.length_replicate, put_len] at * <;> omega) | (((have hw := wr64_le (n := v.Number - 1); omega)); done) | (((have hw := wr64_le (n := v.Number - 1); have h1_ := decimal_len (n := v.Number) (by omega); have h2_ := decimal_len (n := v.Parent) (by omega); simp <;> omega)); done) | (((have hS : StIn v.State := (by assumption); have hq := at_all (i := x1.2) hS.2 (by omega); have hl := hS.1; first | omega | (have hd := decimal_len (n := (at' v.State x1.2).Value) (by omega); simp <;> omega))); done) | (((have hS : StIn v.State := (by assumption); have hl := hS.1; first | omega | (simp <;> omega))); done), by first | omega | assumption | (simp only [List.length_append, List.length_cons, List.length_nil, List.length_replicate, put_len] at * <;> omega) | (((have hw := wr64_le (n := v.Number - 1); omega)); done) | (((have hw := wr64_le (n := v.Number - 1); have h1_ := decimal_len (n := v.Number) (by omega); have h2_ := decimal_len (n := v.Parent) (by omega); simp <;> omega)); done) | (((have hS : StIn v.State := (by assumption); have hq := at_all (i := x1.2) hS.2 (by omega); have hl := hS.1; first | omega | (have hd := decimal_len (n := (at' v.State x1.2).Value) (by omega); simp <;> omega))); done) | (((have hS : StIn v.State := (by assumption); have hl := hS.1; first | omega | (simp <;> omega))); done)⟩ (sub_of [] ⟨rfl, rfl, trivial⟩ ⟨rfl, trivial⟩ rfl)

/-! ### laws_FnVersions -/
set_option maxRecDepth 100000 in
set_option maxHeartbeats 4000000 in
theorem c_laws_FnVersions (code : List Int) (more : List Int) (hp1 : code.length ≤ 9223372036854775807 ∧ ∀ y ∈ code, 0 ≤ y ∧ y ≤ 255) (hp2 : more.length ≤ 9223372036854775807 ∧ ∀ y ∈ more, 0 ≤ y ∧ y ≤ 255) : Con Tryd.prog 4 [.sl 1 (code.map (V.int .u8)), .sl 1 (more.map (V.int .u8))] [] (.bool (m_laws_FnVersions code more)) ([]) := by
  refine ConG.con ?_ rfl hr_nil
  refine con_introG (out := fun r : Bool => ((.bool r : V), ([] : List (Nat × Option O)))) (r := (m_laws_FnVersions code more)) Tryd.func4 rfl Tryd.ntmps4 rfl ?_
  refine run_fact (t := 0) rfl fun hl => ?_
  have l1 := hl; clear hl; simp only [List.length_map] at l1
  refine run_fact (t := 1) rfl fun hl => ?_
  have l2 := hl; clear hl; simp only [List.length_map] at l2
  refine run_seq ?_
  refine run_region (q_assign .n (.c rfl) rfl <|
      Lex.nil) ?_
  refine run_seq ?_
  refine run_seq ?_
  refine run_region (q_move .n (.t rfl) rfl <|
      q_move .n (.t rfl) rfl <|
      q_call0 (full := false) .n .f en_12 (.cons (.t rfl) (.cons (.t rfl) .nil)) (.cons (.b (.a (.same rfl))) (.cons (.b (.a (.same rfl))) .nil)) (fun hg => c_laws_r8Long code more) rfl (fun h => Bool.noConfusion h) rfl <|
      Lex.nil) ?_
  refine run_cond (.t rfl) rfl (fun h3 => ?_) (fun h3 => ?_)
  · try simp only [Bool.and_eq_true, Bool.or_eq_true, Bool.not_eq_true', Bool.and_eq_false_iff, Bool.or_eq_false_iff, Bool.not_eq_false', decide_eq_true_eq, decide_eq_false_iff_not, beq_iff_eq, bne_iff_ne, beq_eq_false_iff_ne, bne_eq_false_iff_eq, Bool.true_and, ne_eq, Decidable.not_not, Int.not_lt, Int.not_le, Nat.not_lt, Nat.not_le, strB_nil, strB_nil', strB_nnil, strB_nnil'] at h3
    refine run_seq ?_
    refine run_region (q_assign .n (.c rfl) rfl <|
        Lex.nil) ?_
    exact run_ret [] (.cons (.t rfl rfl) .nil) rfl trivial rfl
  · try simp only [Bool.and_eq_true, Bool.or_eq_true, Bool.not_eq_true', Bool.and_eq_false_iff, Bool.or_eq_false_iff, Bool.not_eq_false', decide_eq_true_eq, decide_eq_false_iff_not, beq_iff_eq, bne_iff_ne, beq_eq_false_iff_ne, bne_eq_false_iff_eq, Bool.true_and, ne_eq, Decidable.not_not, Int.not_lt, Int.not_le, Nat.not_lt, Nat.not_le, strB_nil, strB_nil', strB_nnil, strB_nnil'] at h3
    refine run_skip ?_
    refine run_seq ?_
    refine run_ro <| ro_lex (l1 := [_]) (l2 := [_, _]) rfl (q_move .n (.t rfl) rfl <|
        Lex.nil) <|
        ro_callGM [] [(100, 200)] .f en_13 (.cons (.t rfl) .nil) (.cons (.b (.a (.same rfl))) .nil) (c_spec_R8History code (by first | omega | assumption | (simp only [List.length_append, List.length_cons, List.length_nil, List.length_replicate, put_len] at * <;> omega) | ((with_reducible exact undoV_memo _ _); done) | ((with_reducible exact at_memo (commitV_memo _ _ _) _); done) | ((with_reducible exact law_idx hp1.2 hp2.2 (by assumption)); done) | (((have h5 := hist5 hp1.2; have hw2 : IntKind.wrap .i64 (((m_spec_R8History code).length : Int) + 1 + 1) = ((m_spec_R8History code).length : Int) + 1 + 1 := wr64 (by omega); omega)); done) | ((with_reducible exact hp1.2); done) | ((with_reducible exact hp2.2); done) | ((exact (draw_state (Lim.from hp2.2)).1); done) | (((have h5 := hist5 hp1.2; omega)); done) | (((have h5 := hist5 hp1.2; have hr := r8At_rng hp2.2 (k := 0) (n := ((m_spec_R8History code).length : Int) + 1) (by omega); have hw1 : IntKind.wrap .i64 (((m_spec_R8History code).length : Int) + 1) = ((m_spec_R8History code).length : Int) + 1 := wr64 (by omega); have hw3 : IntKind.wrap .i64 (((m_spec_R8History code).length : Int) + 1 - 1) = ((m_spec_R8History code).length : Int) := (by rw [wr64 (by omega)]; omega); first | omega | (rw [hw1] at *; first | omega | (rw [wr64 (by omega)]; omega)) | (rw [hw3]; omega))); done) | ((exact wr64_le); done))) trivial rfl rfl rfl rfl <|
        ro_lex (l1 := [_]) (l2 := []) rfl (q_assign .n (.t rfl) rfl <|
        Lex.nil) <|
        ro_end ?_
    refine run_seq ?_
    refine run_region (q_move .n (.t rfl) rfl <|
        q_callM (full := false) [] [(100, 201)] .n rfl .f en_14 (.cons (.t rfl) .nil) (.cons (.b (.a (.same rfl))) .nil) (c_spec_R8State more (by first | omega | assumption | (simp only [List.length_append, List.length_cons, List.length_nil, List.length_replicate, put_len] at * <;> omega) | ((with_reducible exact undoV_memo _ _); done) | ((with_reducible exact at_memo (commitV_memo _ _ _) _); done) | ((with_reducible exact law_idx hp1.2 hp2.2 (by assumption)); done) | (((have h5 := hist5 hp1.2; have hw2 : IntKind.wrap .i64 (((m_spec_R8History code).length : Int) + 1 + 1) = ((m_spec_R8History code).length : Int) + 1 + 1 := wr64 (by omega); omega)); done) | ((with_reducible exact hp1.2); done) | ((with_reducible exact hp2.2); done) | ((exact (draw_state (Lim.from hp2.2)).1); done) | (((have h5 := hist5 hp1.2; omega)); done) | (((have h5 := hist5 hp1.2; have hr := r8At_rng hp2.2 (k := 0) (n := ((m_spec_R8History code).length : Int) + 1) (by omega); have hw1 : IntKind.wrap .i64 (((m_spec_R8History code).length : Int) + 1) = ((m_spec_R8History code).length : Int) + 1 := wr64 (by omega); have hw3 : IntKind.wrap .i64 (((m_spec_R8History code).length : Int) + 1 - 1) = ((m_spec_R8History code).length : Int) := (by rw [wr64 (by omega)]; omega); first | omega | (rw [hw1] at *; first | omega | (rw [wr64 (by omega)]; omega)) | (rw [hw3]; omega))); done) | ((exact wr64_le); done))) trivial rfl rfl (fun h => Bool.noConfusion h) (fun h => Bool.noConfusion h) rfl <|
        q_assign .n (.t rfl) rfl <|
        Lex.nil) ?_
    refine run_seq ?_
    refine run_region (q_move .n (.t rfl) rfl <|
        q_move .n (.t rfl) rfl <|
        q_callM (full := true) [] [(100, 202)] .n rfl .f en_15 (.cons (.t rfl) (.cons (.t rfl) .nil)) (.cons (.b (.a (.same rfl))) (.cons (.b (.a (.own rfl rfl rfl (take_all (by simp only [len_map, put_len] <;> rfl)) (by simp only [len_map, put_len] <;> rfl)))) .nil)) (c_spec_R8Changed code (m_spec_R8State more) (by first | omega | assumption | (simp only [List.length_append, List.length_cons, List.length_nil, List.length_replicate, put_len] at * <;> omega) | ((with_reducible exact undoV_memo _ _); done) | ((with_reducible exact at_memo (commitV_memo _ _ _) _); done) | ((with_reducible exact law_idx hp1.2 hp2.2 (by assumption)); done) | (((have h5 := hist5 hp1.2; have hw2 : IntKind.wrap .i64 (((m_spec_R8History code).length : Int) + 1 + 1) = ((m_spec_R8History code).length : Int) + 1 + 1 := wr64 (by omega); omega)); done) | ((with_reducible exact hp1.2); done) | ((with_reducible exact hp2.2); done) | ((exact (draw_state (Lim.from hp2.2)).1); done) | (((have h5 := hist5 hp1.2; omega)); done) | (((have h5 := hist5 hp1.2; have hr := r8At_rng hp2.2 (k := 0) (n := ((m_spec_R8History code).length : Int) + 1) (by omega); have hw1 : IntKind.wrap .i64 (((m_spec_R8History code).length : Int) + 1) = ((m_spec_R8History code).length : Int) + 1 := wr64 (by omega); have hw3 : IntKind.wrap .i64 (((m_spec_R8History code).length : Int) + 1 - 1) = ((m_spec_R8History code).length : Int) := (by rw [wr64 (by omega)]; omega); first | omega | (rw [hw1] at *; first | omega | (rw [wr64 (by omega)]; omega)) | (rw [hw3]; omega))); done) | ((exact wr64_le); done)) (by first | omega | assumption | (simp only [List.length_append, List.length_cons, List.length_nil, List.length_replicate, put_len] at * <;> omega) | ((with_reducible exact undoV_memo _ _); done) | ((with_reducible exact at_memo (commitV_memo _ _ _) _); done) | ((with_reducible exact law_idx hp1.2 hp2.2 (by assumption)); done) | (((have h5 := hist5 hp1.2; have hw2 : IntKind.wrap .i64 (((m_spec_R8History code).length : Int) + 1 + 1) = ((m_spec_R8History code).length : Int) + 1 + 1 := wr64 (by omega); omega)); done) | ((with_reducible exact hp1.2); done) | ((with_reducible exact hp2.2); done) | ((exact (draw_state (Lim.from hp2.2)).1); done) | (((have h5 := hist5 hp1.2; omega)); done) | (((have h5 := hist5 hp1.2; have hr := r8At_rng hp2.2 (k := 0) (n := ((m_spec_R8History code).length : Int) + 1) (by omega); have hw1 : IntKind.wrap .i64 (((m_spec_R8History code).length : Int) + 1) = ((m_spec_R8History code).length : Int) + 1 := wr64 (by omega); have hw3 : IntKind.wrap .i64 (((m_spec_R8History code).length : Int) + 1 - 1) = ((m_spec_R8History code).length : Int) := (by rw [wr64 (by omega)]; omega); first | omega | (rw [hw1] at *; first | omega | (rw [wr64 (by omega)]; omega)) | (rw [hw3]; omega))); done) | ((exact wr64_le); done))) trivial rfl rfl (fun _ => rfl) (fun _ => (hr_row (fun _ => rfl) hr_nil)) rfl <|
        q_assign .n (.t rfl) rfl <|
        Lex.nil) ?_
    refine run_seq ?_
    refine run_region (q_move .n (.t rfl) rfl <|
        q_move .n (.t rfl) rfl <|
        q_callM (full := true) [] [(100, 203)] .n rfl .f en_16 (.cons (.t rfl) (.cons (.t rfl) .nil)) (.cons (.b (.a (.own rfl rfl rfl (take_all (by simp only [len_map, put_len] <;> rfl)) (by simp only [len_map, put_len] <;> rfl)))) (.cons (.b (.a (.own rfl rfl rfl (take_all (by simp only [len_map, put_len] <;> rfl)) (by simp only [len_map, put_len] <;> rfl)))) .nil)) (c_impl_DiffStates (m_spec_R8State more) (m_spec_R8Changed code (m_spec_R8State more))) trivial rfl rfl (fun _ => rfl) (fun _ => (hr_row (fun _ => rfl) hr_nil)) rfl <|
        q_move .n (.t rfl) rfl <|
        q_ext .n (.t rfl) rfl rfl rfl <|
        q_ext .n (.t rfl) rfl rfl rfl <|
        q_assign .n (.t rfl) rfl <|
        q_assign .n (.t rfl) rfl <|
        Lex.nil) ?_
    refine run_seq ?_
    refine run_region (q_move .n (.t rfl) rfl <|
        q_move .n (.t rfl) rfl <|
        q_callM (full := true) [] [(100, 204)] .n rfl .f en_17 (.cons (.t rfl) (.cons (.t rfl) .nil)) (.cons (.b (.a (.own rfl rfl rfl (take_all (by simp only [len_map, put_len] <;> rfl)) (by simp only [len_map, put_len] <;> rfl)))) (.cons (.b (.a (.own rfl rfl rfl (take_all (by simp only [len_map, put_len] <;> rfl)) (by simp only [len_map, put_len] <;> rfl)))) .nil)) (c_impl_ApplyChanges (m_spec_R8State more) (m_impl_DiffStates (m_spec_R8State more) (m_spec_R8Changed code (m_spec_R8State more))).1) trivial rfl rfl (fun _ => rfl) (fun _ => (hr_row (fun _ => rfl) hr_nil)) rfl <|
        q_move .n (.t rfl) rfl <|
        q_ext .n (.t rfl) rfl rfl rfl <|
        q_ext .n (.t rfl) rfl rfl rfl <|
        q_assign .n (.t rfl) rfl <|
        q_assign .n (.t rfl) rfl <|
        Lex.nil) ?_
    refine run_seq ?_
    refine run_seq ?_
    refine run_region (q_move .n (.t rfl) rfl <|
        q_int .n (.t rfl) (.c rfl) rfl rfl <|
        q_move .n (.t rfl) rfl <|
        q_move (.f rfl rfl) (.t rfl) rfl <|
        q_int (.f rfl rfl) (.u rfl id) (.c rfl) rfl rfl <|
        q_or .n (.t rfl) (.u rfl id) rfl <|
        q_move .n (.t rfl) rfl <|
        q_move (.f rfl rfl) (.t rfl) rfl <|
        q_move (.f rfl rfl) (.t rfl) rfl <|
        q_call0 (full := true) (.f rfl rfl) .f en_18 (.cons (.u rfl id) (.cons (.u rfl id) .nil)) (.cons (.b (.a (.own rfl rfl rfl (take_all (by simp only [len_map, put_len] <;> rfl)) (by simp only [len_map, put_len] <;> rfl)))) (.cons (.b (.a (.own rfl rfl rfl (take_all (by simp only [len_map, put_len] <;> rfl)) (by simp only [len_map, put_len] <;> rfl)))) .nil)) (fun hg => c_spec_SameState (m_impl_ApplyChanges (m_spec_R8State more) (m_impl_DiffStates (m_spec_R8State more) (m_spec_R8Changed code (m_spec_R8State more))).1).1 (m_spec_R8Changed code (m_spec_R8State more))) rfl (fun _ => rfl) rfl <|
        q_not (.f rfl rfl) (.u rfl id) rfl <|
        q_or .n (.t rfl) (.u rfl id) rfl <|
        Lex.nil) ?_
    refine run_cond (.t rfl) rfl (fun h4 => ?_) (fun h4 => ?_)
    · try simp only [Bool.and_eq_true, Bool.or_eq_true, Bool.not_eq_true', Bool.and_eq_false_iff, Bool.or_eq_false_iff, Bool.not_eq_false', decide_eq_true_eq, decide_eq_false_iff_not, beq_iff_eq, bne_iff_ne, beq_eq_false_iff_ne, bne_eq_false_iff_eq, Bool.true_and, ne_eq, Decidable.not_not, Int.not_lt, Int.not_le, Nat.not_lt, Nat.not_le, strB_nil, strB_nil', strB_nnil, strB_nnil'] at h4
      refine run_seq ?_
      refine run_region (q_assign .n (.c rfl) rfl <|
          Lex.nil) ?_
      exact run_ret [] (.cons (.t rfl rfl) .nil) rfl trivial rfl
    · try simp only [Bool.and_eq_true, Bool.or_eq_true, Bool.not_eq_true', Bool.and_eq_false_iff, Bool.or_eq_false_iff, Bool.not_eq_false', decide_eq_true_eq, decide_eq_false_iff_not, beq_iff_eq, bne_iff_ne, beq_eq_false_iff_ne, bne_eq_false_iff_eq, Bool.true_and, ne_eq, Decidable.not_not, Int.not_lt, Int.not_le, Nat.not_lt, Nat.not_le, strB_nil, strB_nil', strB_nnil, strB_nnil'] at h4
      refine run_skip ?_
      refine run_seq ?_
      refine run_region (q_move .n (.t rfl) rfl <|
          q_move .n (.t rfl) rfl <|
          q_len .n (.t rfl) rfl rfl ss_24 rfl <|
          q_int .n (.t rfl) (.c rfl) rfl rfl <|
          q_call0 (full := false) .n .f en_19 (.cons (.t rfl) (.cons (.c rfl) (.cons (.t rfl) .nil))) (.cons (.b (.a (.same rfl))) (.cons (.b (.a (.same rfl))) (.cons (.b (.a (.same rfl))) .nil))) (fun hg => c_laws_r8At more 0 (IntKind.wrap .i64 (((m_spec_R8History code).length : Int) + 1)) (by first | omega | assumption | (simp only [List.length_append, List.length_cons, List.length_nil, List.length_replicate, put_len] at * <;> omega) | ((with_reducible exact undoV_memo _ _); done) | ((with_reducible exact at_memo (commitV_memo _ _ _) _); done) | ((with_reducible exact law_idx hp1.2 hp2.2 (by assumption)); done) | (((have h5 := hist5 hp1.2; have hw2 : IntKind.wrap .i64 (((m_spec_R8History code).length : Int) + 1 + 1) = ((m_spec_R8History code).length : Int) + 1 + 1 := wr64 (by omega); omega)); done) | ((with_reducible exact hp1.2); done) | ((with_reducible exact hp2.2); done) | ((exact (draw_state (Lim.from hp2.2)).1); done) | (((have h5 := hist5 hp1.2; omega)); done) | (((have h5 := hist5 hp1.2; have hr := r8At_rng hp2.2 (k := 0) (n := ((m_spec_R8History code).length : Int) + 1) (by omega); have hw1 : IntKind.wrap .i64 (((m_spec_R8History code).length : Int) + 1) = ((m_spec_R8History code).length : Int) + 1 := wr64 (by omega); have hw3 : IntKind.wrap .i64 (((m_spec_R8History code).length : Int) + 1 - 1) = ((m_spec_R8History code).length : Int) := (by rw [wr64 (by omega)]; omega); first | omega | (rw [hw1] at *; first | omega | (rw [wr64 (by omega)]; omega)) | (rw [hw3]; omega))); done) | ((exact wr64_le); done))) rfl (fun h => Bool.noConfusion h) rfl <|
          q_assign .n (.t rfl) rfl <|
          Lex.nil) ?_
      refine run_seq ?_
      refine run_ro <| ro_lex (l1 := [_, _, _]) (l2 := [_, _, _, _, _, _]) rfl (q_move .n (.t rfl) rfl <|
          q_move .n (.t rfl) rfl <|
          q_move .n (.t rfl) rfl <|
          Lex.nil) <|
          ro_freezeL (l := 200) [5, 30, 61, 66] ⟨rfl, rfl, rfl, rfl, trivial⟩ rfl (take_all (by simp only [len_map, put_len] <;> rfl)) (by simp only [len_map, put_len] <;> rfl) rfl <|
          ro_freezeL (l := 201) [6, 32, 34, 37, 43, 68] ⟨rfl, rfl, rfl, rfl, rfl, rfl, trivial⟩ rfl (take_all (by simp only [len_map, put_len] <;> rfl)) (by simp only [len_map, put_len] <;> rfl) rfl <|
          ro_callGM [] [(100, 207)] .f en_20 (.cons (.t rfl) (.cons (.t rfl) (.cons (.c rfl) (.cons (.t rfl) .nil)))) (.cons (.b (.a (.same rfl))) (.cons (.b (.a (.same rfl))) (.cons (.b (.a (.same rfl))) (.cons (.b (.a (.same rfl))) .nil)))) (c_impl_CommitState (m_spec_R8History code) (m_laws_r8At more 0 (IntKind.wrap .i64 (((m_spec_R8History code).length : Int) + 1))) ([110, 101, 120, 116] : List UInt8) (m_spec_R8State more)) trivial rfl rfl rfl rfl <|
          ro_lex (l1 := [_, _, _, _, _]) (l2 := []) rfl (q_move .n (.t rfl) rfl <|
          q_ext .n (.t rfl) rfl rfl rfl <|
          q_ext .n (.t rfl) rfl rfl rfl <|
          q_assign .n (.t rfl) rfl <|
          q_assign .n (.t rfl) rfl <|
          Lex.nil) <|
          ro_end ?_
      refine run_seq ?_
      refine run_region (q_move .n (.t rfl) rfl <|
          q_len .n (.t rfl) rfl len_map ss_24 rfl <|
          q_add .n (.t rfl) (.c rfl) (fun _ => by first | omega | assumption | (simp only [List.length_append, List.length_cons, List.length_nil, List.length_replicate, put_len] at * <;> omega) | ((with_reducible exact undoV_memo _ _); done) | ((with_reducible exact at_memo (commitV_memo _ _ _) _); done) | ((with_reducible exact law_idx hp1.2 hp2.2 (by assumption)); done) | (((have h5 := hist5 hp1.2; have hw2 : IntKind.wrap .i64 (((m_spec_R8History code).length : Int) + 1 + 1) = ((m_spec_R8History code).length : Int) + 1 + 1 := wr64 (by omega); omega)); done) | ((with_reducible exact hp1.2); done) | ((with_reducible exact hp2.2); done) | ((exact (draw_state (Lim.from hp2.2)).1); done) | (((have h5 := hist5 hp1.2; omega)); done) | (((have h5 := hist5 hp1.2; have hr := r8At_rng hp2.2 (k := 0) (n := ((m_spec_R8History code).length : Int) + 1) (by omega); have hw1 : IntKind.wrap .i64 (((m_spec_R8History code).length : Int) + 1) = ((m_spec_R8History code).length : Int) + 1 := wr64 (by omega); have hw3 : IntKind.wrap .i64 (((m_spec_R8History code).length : Int) + 1 - 1) = ((m_spec_R8History code).length : Int) := (by rw [wr64 (by omega)]; omega); first | omega | (rw [hw1] at *; first | omega | (rw [wr64 (by omega)]; omega)) | (rw [hw3]; omega))); done) | ((exact wr64_le); done)) rfl <|
          q_assign .n (.t rfl) rfl <|
          Lex.nil) ?_
      refine run_fact (t := 72) rfl fun hl => ?_
      have l5 := hl; clear hl; simp only [List.length_map] at l5
      refine run_seq ?_
      refine run_ro <| ro_lex (l1 := [_, _]) (l2 := [_, _, _, _, _, _]) rfl (q_move .n (.t rfl) rfl <|
          q_move .n (.t rfl) rfl <|
          Lex.nil) <|
          ro_freezeL (l := 207) [13, 70, 76] ⟨rfl, rfl, rfl, trivial⟩ rfl (take_all (by simp only [len_map, put_len] <;> rfl)) (by simp only [len_map, put_len] <;> rfl) rfl <|
          ro_callGM [] [(100, 209)] .f en_8 (.cons (.t rfl) (.cons (.t rfl) .nil)) (.cons (.b (.a (.same rfl))) (.cons (.b (.a (.same rfl))) .nil)) (c_impl_UndoVersion (m_impl_CommitState (m_spec_R8History code) (m_laws_r8At more 0 (IntKind.wrap .i64 (((m_spec_R8History code).length : Int) + 1))) ([110, 101, 120, 116] : List UInt8) (m_spec_R8State more)).1 (((m_spec_R8History code).length : Int) + 1)) trivial rfl rfl rfl rfl <|
          ro_lex (l1 := [_, _, _, _, _]) (l2 := []) rfl (q_move .n (.t rfl) rfl <|
          q_ext .n (.t rfl) rfl rfl rfl <|
          q_ext .n (.t rfl) rfl rfl rfl <|
          q_assign .n (.t rfl) rfl <|
          q_assign .n (.t rfl) rfl <|
          Lex.nil) <|
          ro_end ?_
      refine run_seq ?_
      refine run_ro <| ro_lex (l1 := [_, _]) (l2 := [_, _, _, _, _, _]) rfl (q_move .n (.t rfl) rfl <|
          q_move .n (.t rfl) rfl <|
          Lex.nil) <|
          ro_callGM [] [] .f en_21 (.cons (.t rfl) (.cons (.t rfl) .nil)) (.cons (.b (.a (.same rfl))) (.cons (.b (.a (.same rfl))) .nil)) (c_impl_AncestorsOf (m_impl_CommitState (m_spec_R8History code) (m_laws_r8At more 0 (IntKind.wrap .i64 (((m_spec_R8History code).length : Int) + 1))) ([110, 101, 120, 116] : List UInt8) (m_spec_R8State more)).1 (((m_spec_R8History code).length : Int) + 1)) trivial rfl rfl rfl rfl <|
          ro_lex (l1 := [_, _, _, _, _]) (l2 := []) rfl (q_move .n (.t rfl) rfl <|
          q_ext .n (.t rfl) rfl rfl rfl <|
          q_ext .n (.t rfl) rfl rfl rfl <|
          q_assign .n (.t rfl) rfl <|
          q_assign .n (.t rfl) rfl <|
          Lex.nil) <|
          ro_end ?_
      refine run_seq ?_
      refine run_region (q_move .n (.t rfl) rfl <|
          q_callM (full := false) [] [(100, 210)] .n rfl .f en_22 (.cons (.t rfl) .nil) (.cons (.b (.a (.same rfl))) .nil) (c_impl_HeadsOf (m_impl_CommitState (m_spec_R8History code) (m_laws_r8At more 0 (IntKind.wrap .i64 (((m_spec_R8History code).length : Int) + 1))) ([110, 101, 120, 116] : List UInt8) (m_spec_R8State more)).1) trivial rfl rfl (fun h => Bool.noConfusion h) (fun h => Bool.noConfusion h) rfl <|
          q_move .n (.t rfl) rfl <|
          q_ext .n (.t rfl) rfl rfl rfl <|
          q_ext .n (.t rfl) rfl rfl rfl <|
          q_assign .n (.t rfl) rfl <|
          q_assign .n (.t rfl) rfl <|
          Lex.nil) ?_
      refine run_seq ?_
      refine run_region (q_move .n (.t rfl) rfl <|
          q_move .n (.t rfl) rfl <|
          q_move .n (.t rfl) rfl <|
          q_call0 (full := false) .n .f en_23 (.cons (.t rfl) (.cons (.t rfl) (.cons (.t rfl) .nil))) (.cons (.b (.a (.same rfl))) (.cons (.b (.a (.same rfl))) (.cons (.b (.a (.same rfl))) .nil))) (fun hg => c_impl_CommonAncestor (m_impl_CommitState (m_spec_R8History code) (m_laws_r8At more 0 (IntKind.wrap .i64 (((m_spec_R8History code).length : Int) + 1))) ([110, 101, 120, 116] : List UInt8) (m_spec_R8State more)).1 (((m_spec_R8History code).length : Int) + 1) (((m_spec_R8History code).length : Int) + 1)) rfl (fun h => Bool.noConfusion h) rfl <|
          q_move .n (.t rfl) rfl <|
          q_ext .n (.t rfl) rfl rfl rfl <|
          q_ext .n (.t rfl) rfl rfl rfl <|
          q_assign .n (.t rfl) rfl <|
          q_assign .n (.t rfl) rfl <|
          Lex.nil) ?_
      refine run_seq ?_
      refine run_seq ?_
      refine run_region (q_move .n (.t rfl) rfl <|
          q_int .n (.t rfl) (.c rfl) rfl rfl <|
          q_move .n (.t rfl) rfl <|
          q_move (.f rfl rfl) (.t rfl) rfl <|
          q_len (.f rfl rfl) (.u rfl id) rfl len_map ss_24 rfl <|
          q_move (.f rfl rfl) (.t rfl) rfl <|
          q_int (.f rfl rfl) (.u rfl id) (.u rfl id) rfl rfl <|
          q_or .n (.t rfl) (.u rfl id) rfl <|
          q_move .n (.t rfl) rfl <|
          q_move (.f rfl rfl) (.t rfl) rfl <|
          q_int (.f rfl rfl) (.u rfl id) (.c rfl) rfl rfl <|
          q_or .n (.t rfl) (.u rfl id) rfl <|
          q_move .n (.t rfl) rfl <|
          q_move (.f rfl rfl) (.t rfl) rfl <|
          q_len (.f rfl rfl) (.u rfl id) rfl rfl ss_24 rfl <|
          q_move (.f rfl rfl) (.t rfl) rfl <|
          q_int (.f rfl rfl) (.u rfl id) (.c rfl) rfl rfl <|
          q_int (.f rfl rfl) (.u rfl id) (.u rfl id) rfl rfl <|
          q_or .n (.t rfl) (.u rfl id) rfl <|
          q_move .n (.t rfl) rfl <|
          q_move (.f rfl rfl) (.t rfl) rfl <|
          q_int (.f rfl rfl) (.u rfl id) (.c rfl) rfl rfl <|
          q_or .n (.t rfl) (.u rfl id) rfl <|
          q_move .n (.t rfl) rfl <|
          q_move (.f rfl rfl) (.t rfl) rfl <|
          q_int (.f rfl rfl) (.u rfl id) (.c rfl) rfl rfl <|
          q_or .n (.t rfl) (.u rfl id) rfl <|
          q_move .n (.t rfl) rfl <|
          q_move (.f rfl rfl) (.t rfl) rfl <|
          q_move (.f rfl rfl) (.t rfl) rfl <|
          q_call0 (full := true) (.f rfl rfl) .f en_24 (.cons (.u rfl id) (.cons (.u rfl id) .nil)) (.cons (.b (.a (.own rfl rfl rfl (take_all (by simp only [len_map, put_len] <;> rfl)) (by simp only [len_map, put_len] <;> rfl)))) (.cons (.b (.a (.same rfl))) .nil)) (fun hg => c_laws_r8Has (m_impl_HeadsOf (m_impl_CommitState (m_spec_R8History code) (m_laws_r8At more 0 (IntKind.wrap .i64 (((m_spec_R8History code).length : Int) + 1))) ([110, 101, 120, 116] : List UInt8) (m_spec_R8State more)).1).1 (((m_spec_R8History code).length : Int) + 1)) rfl (fun _ => rfl) rfl <|
          q_not (.f rfl rfl) (.u rfl id) rfl <|
          q_or .n (.t rfl) (.u rfl id) rfl <|
          q_move .n (.t rfl) rfl <|
          q_move (.f rfl rfl) (.t rfl) rfl <|
          q_int (.f rfl rfl) (.u rfl id) (.c rfl) rfl rfl <|
          q_or .n (.t rfl) (.u rfl id) rfl <|
          q_move .n (.t rfl) rfl <|
          q_move (.f rfl rfl) (.t rfl) rfl <|
          q_move (.f rfl rfl) (.t rfl) rfl <|
          q_int (.f rfl rfl) (.u rfl id) (.u rfl id) rfl rfl <|
          q_or .n (.t rfl) (.u rfl id) rfl <|
          q_move .n (.t rfl) rfl <|
          q_move (.f rfl rfl) (.t rfl) rfl <|
          q_call0 (full := true) (.f rfl rfl) .f en_25 (.cons (.u rfl id) .nil) (.cons (.b (.a (.own rfl rfl rfl (take_all (by simp only [len_map, put_len] <;> rfl)) (by simp only [len_map, put_len] <;> rfl)))) .nil) (fun hg => c_spec_ValidHistory (m_impl_UndoVersion (m_impl_CommitState (m_spec_R8History code) (m_laws_r8At more 0 (IntKind.wrap .i64 (((m_spec_R8History code).length : Int) + 1))) ([110, 101, 120, 116] : List UInt8) (m_spec_R8State more)).1 (((m_spec_R8History code).length : Int) + 1)).1 (by simp only [Bool.and_eq_true, Bool.or_eq_true, Bool.not_eq_true', Bool.and_eq_false_iff, Bool.or_eq_false_iff, Bool.not_eq_false', decide_eq_true_eq, decide_eq_false_iff_not, beq_iff_eq, bne_iff_ne, beq_eq_false_iff_ne, bne_eq_false_iff_eq, Bool.true_and, ne_eq, Decidable.not_not, Int.not_lt, Int.not_le, Nat.not_lt, Nat.not_le, strB_nil, strB_nil', strB_nnil, strB_nnil'] at hg; first | omega | assumption | (simp only [List.length_append, List.length_cons, List.length_nil, List.length_replicate, put_len] at * <;> omega) | ((with_reducible exact undoV_memo _ _); done) | ((with_reducible exact at_memo (commitV_memo _ _ _) _); done) | ((with_reducible exact law_idx hp1.2 hp2.2 (by assumption)); done) | (((have h5 := hist5 hp1.2; have hw2 : IntKind.wrap .i64 (((m_spec_R8History code).length : Int) + 1 + 1) = ((m_spec_R8History code).length : Int) + 1 + 1 := wr64 (by omega); omega)); done) | ((with_reducible exact hp1.2); done) | ((with_reducible exact hp2.2); done) | ((exact (draw_state (Lim.from hp2.2)).1); done) | (((have h5 := hist5 hp1.2; omega)); done) | (((have h5 := hist5 hp1.2; have hr := r8At_rng hp2.2 (k := 0) (n := ((m_spec_R8History code).length : Int) + 1) (by omega); have hw1 : IntKind.wrap .i64 (((m_spec_R8History code).length : Int) + 1) = ((m_spec_R8History code).length : Int) + 1 := wr64 (by omega); have hw3 : IntKind.wrap .i64 (((m_spec_R8History code).length : Int) + 1 - 1) = ((m_spec_R8History code).length : Int) := (by rw [wr64 (by omega)]; omega); first | omega | (rw [hw1] at *; first | omega | (rw [wr64 (by omega)]; omega)) | (rw [hw3]; omega))); done) | ((exact wr64_le); done))) rfl (fun _ => rfl) rfl <|
          q_not (.f rfl rfl) (.u rfl id) rfl <|
          q_or .n (.t rfl) (.u rfl id) rfl <|
          Lex.nil) ?_
      refine run_cond (.t rfl) rfl (fun h6 => ?_) (fun h6 => ?_)
      · try simp only [Bool.and_eq_true, Bool.or_eq_true, Bool.not_eq_true', Bool.and_eq_false_iff, Bool.or_eq_false_iff, Bool.not_eq_false', decide_eq_true_eq, decide_eq_false_iff_not, beq_iff_eq, bne_iff_ne, beq_eq_false_iff_ne, bne_eq_false_iff_eq, Bool.true_and, ne_eq, Decidable.not_not, Int.not_lt, Int.not_le, Nat.not_lt, Nat.not_le, strB_nil, strB_nil', strB_nnil, strB_nnil'] at h6
        refine run_seq ?_
        refine run_region (q_assign .n (.c rfl) rfl <|
            Lex.nil) ?_
        exact run_ret [] (.cons (.t rfl rfl) .nil) rfl trivial rfl
      · try simp only [Bool.and_eq_true, Bool.or_eq_true, Bool.not_eq_true', Bool.and_eq_false_iff, Bool.or_eq_false_iff, Bool.not_eq_false', decide_eq_true_eq, decide_eq_false_iff_not, beq_iff_eq, bne_iff_ne, beq_eq_false_iff_ne, bne_eq_false_iff_eq, Bool.true_and, ne_eq, Decidable.not_not, Int.not_lt, Int.not_le, Nat.not_lt, Nat.not_le, strB_nil, strB_nil', strB_nnil, strB_nnil'] at h6
        refine run_skip ?_
        refine run_seq ?_
        refine run_ro <| ro_lex (l1 := [_]) (l2 := [_]) rfl (q_bslicem ([] : List gSetting) (f := gSetting.v) (l := 211) .n rfl rfl .nil rfl si_34 zv_75 rfl rfl rfl <|
            Lex.nil) <|
            ro_freezeL (l := 211) [146] ⟨rfl, trivial⟩ rfl (take_all (by simp only [len_map, put_len] <;> rfl)) (by simp only [len_map, put_len] <;> rfl) rfl <|
            ro_lex (l1 := [_]) (l2 := []) rfl (q_assign .n (.t rfl) rfl <|
            Lex.nil) <|
            ro_end ?_
        refine run_seq ?_
        refine run_seq ?_
        refine run_region (q_move .n (.t rfl) rfl <|
            q_int .n (.t rfl) (.c rfl) rfl rfl <|
            Lex.nil) ?_
        refine run_join _ _ rfl (fun v7 : (List gSetting) => True) (fun v7 => ⟨[(12, some (true, .int .i64 (m_laws_r8At more 0 (IntKind.wrap .i64 (((m_spec_R8History code).length : Int) + 1))))), (13, some (true, .sl 4 ((m_impl_CommitState (m_spec_R8History code) (m_laws_r8At more 0 (IntKind.wrap .i64 (((m_spec_R8History code).length : Int) + 1))) ([110, 101, 120, 116] : List UInt8) (m_spec_R8State more)).1.map gVersion.v))), (15, some (true, .int .i64 (((m_spec_R8History code).length : Int) + 1))), (16, some (true, .os 209 (m_impl_UndoVersion (m_impl_CommitState (m_spec_R8History code) (m_laws_r8At more 0 (IntKind.wrap .i64 (((m_spec_R8History code).length : Int) + 1))) ([110, 101, 120, 116] : List UInt8) (m_spec_R8State more)).1 (((m_spec_R8History code).length : Int) + 1)).1.length)), (18, some (true, .sl 1 ((m_impl_AncestorsOf (m_impl_CommitState (m_spec_R8History code) (m_laws_r8At more 0 (IntKind.wrap .i64 (((m_spec_R8History code).length : Int) + 1))) ([110, 101, 120, 116] : List UInt8) (m_spec_R8State more)).1 (((m_spec_R8History code).length : Int) + 1)).1.map (V.int .i64)))), (24, some (true, .sl 2 (v7.map gSetting.v)))], [(209, some (.row 54 4 ((m_impl_UndoVersion (m_impl_CommitState (m_spec_R8History code) (m_laws_r8At more 0 (IntKind.wrap .i64 (((m_spec_R8History code).length : Int) + 1))) ([110, 101, 120, 116] : List UInt8) (m_spec_R8State more)).1 (((m_spec_R8History code).length : Int) + 1)).1.map gVersion.v)))]⟩) (fun v7 _ => ?_) (fun j8 hj9 => ?_)
        · refine run_seq ?_
          refine run_seq ?_
          refine run_region (q_move .n (.t rfl) rfl <|
              q_move .n (.t rfl) rfl <|
              q_idx_ow .n (.t rfl) (.t rfl) sl_24 (fun _ => by first | omega | assumption | (simp only [List.length_append, List.length_cons, List.length_nil, List.length_replicate, put_len] at * <;> omega) | ((with_reducible exact undoV_memo _ _); done) | ((with_reducible exact at_memo (commitV_memo _ _ _) _); done) | ((with_reducible exact law_idx hp1.2 hp2.2 (by assumption)); done) | (((have h5 := hist5 hp1.2; have hw2 : IntKind.wrap .i64 (((m_spec_R8History code).length : Int) + 1 + 1) = ((m_spec_R8History code).length : Int) + 1 + 1 := wr64 (by omega); omega)); done) | ((with_reducible exact hp1.2); done) | ((with_reducible exact hp2.2); done) | ((exact (draw_state (Lim.from hp2.2)).1); done) | (((have h5 := hist5 hp1.2; omega)); done) | (((have h5 := hist5 hp1.2; have hr := r8At_rng hp2.2 (k := 0) (n := ((m_spec_R8History code).length : Int) + 1) (by omega); have hw1 : IntKind.wrap .i64 (((m_spec_R8History code).length : Int) + 1) = ((m_spec_R8History code).length : Int) + 1 := wr64 (by omega); have hw3 : IntKind.wrap .i64 (((m_spec_R8History code).length : Int) + 1 - 1) = ((m_spec_R8History code).length : Int) := (by rw [wr64 (by omega)]; omega); first | omega | (rw [hw1] at *; first | omega | (rw [wr64 (by omega)]; omega)) | (rw [hw3]; omega))); done) | ((exact wr64_le); done)) rfl <|
              q_fld_ow .n (.t rfl) fo_54_3 rfl <|
              q_ld1_row .n (.t rfl) rfl (fun _ => by first | omega | assumption | (simp only [List.length_append, List.length_cons, List.length_nil, List.length_replicate, put_len] at * <;> omega) | ((with_reducible exact undoV_memo _ _); done) | ((with_reducible exact at_memo (commitV_memo _ _ _) _); done) | ((with_reducible exact law_idx hp1.2 hp2.2 (by assumption)); done) | (((have h5 := hist5 hp1.2; have hw2 : IntKind.wrap .i64 (((m_spec_R8History code).length : Int) + 1 + 1) = ((m_spec_R8History code).length : Int) + 1 + 1 := wr64 (by omega); omega)); done) | ((with_reducible exact hp1.2); done) | ((with_reducible exact hp2.2); done) | ((exact (draw_state (Lim.from hp2.2)).1); done) | (((have h5 := hist5 hp1.2; omega)); done) | (((have h5 := hist5 hp1.2; have hr := r8At_rng hp2.2 (k := 0) (n := ((m_spec_R8History code).length : Int) + 1) (by omega); have hw1 : IntKind.wrap .i64 (((m_spec_R8History code).length : Int) + 1) = ((m_spec_R8History code).length : Int) + 1 := wr64 (by omega); have hw3 : IntKind.wrap .i64 (((m_spec_R8History code).length : Int) + 1 - 1) = ((m_spec_R8History code).length : Int) := (by rw [wr64 (by omega)]; omega); first | omega | (rw [hw1] at *; first | omega | (rw [wr64 (by omega)]; omega)) | (rw [hw3]; omega))); done) | ((exact wr64_le); done)) rfl rfl rfl ic_34 rfl <|
              q_move .n (.t rfl) rfl <|
              q_call0 (full := false) .n .f en_18 (.cons (.t rfl) (.cons (.t rfl) .nil)) (.cons (.b (.a (.same rfl))) (.cons (.b (.a (.same rfl))) .nil)) (fun hg => c_spec_SameState (at' (m_impl_UndoVersion (m_impl_CommitState (m_spec_R8History code) (m_laws_r8At more 0 (IntKind.wrap .i64 (((m_spec_R8History code).length : Int) + 1))) ([110, 101, 120, 116] : List UInt8) (m_spec_R8State more)).1 (((m_spec_R8History code).length : Int) + 1)).1 (((m_spec_R8History code).length : Int) + 1)).State v7) rfl (fun h => Bool.noConfusion h) rfl <|
              q_not .n (.t rfl) rfl <|
              q_move .n (.t rfl) rfl <|
              q_move (.f rfl rfl) (.t rfl) rfl <|
              q_int (.f rfl rfl) (.u rfl id) (.c rfl) rfl rfl <|
              q_move (.f rfl rfl) (.t rfl) rfl <|
              q_move (.f rfl rfl) (.t rfl) rfl <|
              q_call0 (full := false) (.f rfl rfl) .f en_24 (.cons (.u rfl id) (.cons (.u rfl id) .nil)) (.cons (.b (.a (.same rfl))) (.cons (.b (.a (.same rfl))) .nil)) (fun hg => c_laws_r8Has (m_impl_AncestorsOf (m_impl_CommitState (m_spec_R8History code) (m_laws_r8At more 0 (IntKind.wrap .i64 (((m_spec_R8History code).length : Int) + 1))) ([110, 101, 120, 116] : List UInt8) (m_spec_R8State more)).1 (((m_spec_R8History code).length : Int) + 1)).1 (m_laws_r8At more 0 (IntKind.wrap .i64 (((m_spec_R8History code).length : Int) + 1)))) rfl (fun h => Bool.noConfusion h) rfl <|
              q_boolneq (.f rfl rfl) (.u rfl id) (.u rfl id) ub_4 rfl <|
              q_or .n (.t rfl) (.u rfl id) rfl <|
              Lex.nil) ?_
          refine run_cond (.t rfl) rfl (fun h11 => ?_) (fun h11 => ?_)
          · try simp only [Bool.and_eq_true, Bool.or_eq_true, Bool.not_eq_true', Bool.and_eq_false_iff, Bool.or_eq_false_iff, Bool.not_eq_false', decide_eq_true_eq, decide_eq_false_iff_not, beq_iff_eq, bne_iff_ne, beq_eq_false_iff_ne, bne_eq_false_iff_eq, Bool.true_and, ne_eq, Decidable.not_not, Int.not_lt, Int.not_le, Nat.not_lt, Nat.not_le, strB_nil, strB_nil', strB_nnil, strB_nnil'] at h11
            refine run_seq ?_
            refine run_region (q_assign .n (.c rfl) rfl <|
                Lex.nil) ?_
            exact run_ret [] (.cons (.t rfl rfl) .nil) rfl trivial rfl
          · try simp only [Bool.and_eq_true, Bool.or_eq_true, Bool.not_eq_true', Bool.and_eq_false_iff, Bool.or_eq_false_iff, Bool.not_eq_false', decide_eq_true_eq, decide_eq_false_iff_not, beq_iff_eq, bne_iff_ne, beq_eq_false_iff_ne, bne_eq_false_iff_eq, Bool.true_and, ne_eq, Decidable.not_not, Int.not_lt, Int.not_le, Nat.not_lt, Nat.not_le, strB_nil, strB_nil', strB_nnil, strB_nnil'] at h11
            refine run_skip ?_
            refine run_seq ?_
            refine run_seq ?_
            refine run_region (q_assign .n (.c rfl) rfl <|
                Lex.nil) ?_
            refine run_block ?_
            refine run_LOOPG (m_laws_FnVersions_b1 code more v7) _ _ _ rfl (fun (x1 : Int) => 0 ≤ x1 ∧ x1 ≤ ((m_impl_AncestorsOf (m_impl_CommitState (m_spec_R8History code) (m_laws_r8At more 0 (IntKind.wrap .i64 (((m_spec_R8History code).length : Int) + 1))) ([110, 101, 120, 116] : List UInt8) (m_spec_R8State more)).1 (((m_spec_R8History code).length : Int) + 1)).1.length : Int)) (fun x1 => 0 ≤ x1 ∧ x1 ≤ ((m_impl_AncestorsOf (m_impl_CommitState (m_spec_R8History code) (m_laws_r8At more 0 (IntKind.wrap .i64 (((m_spec_R8History code).length : Int) + 1))) ([110, 101, 120, 116] : List UInt8) (m_spec_R8State more)).1 (((m_spec_R8History code).length : Int) + 1)).1.length : Int) ∧ ((m_impl_AncestorsOf (m_impl_CommitState (m_spec_R8History code) (m_laws_r8At more 0 (IntKind.wrap .i64 (((m_spec_R8History code).length : Int) + 1))) ([110, 101, 120, 116] : List UInt8) (m_spec_R8State more)).1 (((m_spec_R8History code).length : Int) + 1)).1.length : Int) ≤ x1) (fun x1 => (((m_impl_AncestorsOf (m_impl_CommitState (m_spec_R8History code) (m_laws_r8At more 0 (IntKind.wrap .i64 (((m_spec_R8History code).length : Int) + 1))) ([110, 101, 120, 116] : List UInt8) (m_spec_R8State more)).1 (((m_spec_R8History code).length : Int) + 1)).1.length : Int) - x1 : Int).toNat) (fun x1 => ⟨[(13, some (true, .sl 4 ((m_impl_CommitState (m_spec_R8History code) (m_laws_r8At more 0 (IntKind.wrap .i64 (((m_spec_R8History code).length : Int) + 1))) ([110, 101, 120, 116] : List UInt8) (m_spec_R8State more)).1.map gVersion.v))), (15, some (true, .int .i64 (((m_spec_R8History code).length : Int) + 1))), (18, some (true, .sl 1 ((m_impl_AncestorsOf (m_impl_CommitState (m_spec_R8History code) (m_laws_r8At more 0 (IntKind.wrap .i64 (((m_spec_R8History code).length : Int) + 1))) ([110, 101, 120, 116] : List UInt8) (m_spec_R8State more)).1 (((m_spec_R8History code).length : Int) + 1)).1.map (V.int .i64)))), (25, some (true, .int .i64 x1))], []⟩) (fun x1 => ⟨[(13, some (true, .sl 4 ((m_impl_CommitState (m_spec_R8History code) (m_laws_r8At more 0 (IntKind.wrap .i64 (((m_spec_R8History code).length : Int) + 1))) ([110, 101, 120, 116] : List UInt8) (m_spec_R8State more)).1.map gVersion.v))), (15, some (true, .int .i64 (((m_spec_R8History code).length : Int) + 1)))], []⟩) ⟨by first | omega | assumption | (simp only [List.length_append, List.length_cons, List.length_nil, List.length_replicate, put_len] at * <;> omega) | ((with_reducible exact undoV_memo _ _); done) | ((with_reducible exact at_memo (commitV_memo _ _ _) _); done) | ((with_reducible exact law_idx hp1.2 hp2.2 (by assumption)); done) | (((have h5 := hist5 hp1.2; have hw2 : IntKind.wrap .i64 (((m_spec_R8History code).length : Int) + 1 + 1) = ((m_spec_R8History code).length : Int) + 1 + 1 := wr64 (by omega); omega)); done) | ((with_reducible exact hp1.2); done) | ((with_reducible exact hp2.2); done) | ((exact (draw_state (Lim.from hp2.2)).1); done) | (((have h5 := hist5 hp1.2; omega)); done) | (((have h5 := hist5 hp1.2; have hr := r8At_rng hp2.2 (k := 0) (n := ((m_spec_R8History code).length : Int) + 1) (by omega); have hw1 : IntKind.wrap .i64 (((m_spec_R8History code).length : Int) + 1) = ((m_spec_R8History code).length : Int) + 1 := wr64 (by omega); have hw3 : IntKind.wrap .i64 (((m_spec_R8History code).length : Int) + 1 - 1) = ((m_spec_R8History code).length : Int) := (by rw [wr64 (by omega)]; omega); first | omega | (rw [hw1] at *; first | omega | (rw [wr64 (by omega)]; omega)) | (rw [hw3]; omega))); done) | ((exact wr64_le); done), by first | omega | assumption | (simp only [List.length_append, List.length_cons, List.length_nil, List.length_replicate, put_len] at * <;> omega) | ((with_reducible exact undoV_memo _ _); done) | ((with_reducible exact at_memo (commitV_memo _ _ _) _); done) | ((with_reducible exact law_idx hp1.2 hp2.2 (by assumption)); done) | (((have h5 := hist5 hp1.2; have hw2 : IntKind.wrap .i64 (((m_spec_R8History code).length : Int) + 1 + 1) = ((m_spec_R8History code).length : Int) + 1 + 1 := wr64 (by omega); omega)); done) | ((with_reducible exact hp1.2); done) | ((with_reducible exact hp2.2); done) | ((exact (draw_state (Lim.from hp2.2)).1); done) | (((have h5 := hist5 hp1.2; omega)); done) | (((have h5 := hist5 hp1.2; have hr := r8At_rng hp2.2 (k := 0) (n := ((m_spec_R8History code).length : Int) + 1) (by omega); have hw1 : IntKind.wrap .i64 (((m_spec_R8History code).length : Int) + 1) = ((m_spec_R8History code).length : Int) + 1 := wr64 (by omega); have hw3 : IntKind.wrap .i64 (((m_spec_R8History code).length : Int) + 1 - 1) = ((m_spec_R8History code).length : Int) := (by rw [wr64 (by omega)]; omega); first | omega | (rw [hw1] at *; first | omega | (rw [wr64 (by omega)]; omega)) | (rw [hw3]; omega))); done) | ((exact wr64_le); done)⟩ (by first | omega | assumption | (simp only [List.length_append, List.length_cons, List.length_nil, List.length_replicate, put_len] at * <;> omega) | ((with_reducible exact undoV_memo _ _); done) | ((with_reducible exact at_memo (commitV_memo _ _ _) _); done) | ((with_reducible exact law_idx hp1.2 hp2.2 (by assumption)); done) | (((have h5 := hist5 hp1.2; have hw2 : IntKind.wrap .i64 (((m_spec_R8History code).length : Int) + 1 + 1) = ((m_spec_R8History code).length : Int) + 1 + 1 := wr64 (by omega); omega)); done) | ((with_reducible exact hp1.2); done) | ((with_reducible exact hp2.2); done) | ((exact (draw_state (Lim.from hp2.2)).1); done) | (((have h5 := hist5 hp1.2; omega)); done) | (((have h5 := hist5 hp1.2; have hr := r8At_rng hp2.2 (k := 0) (n := ((m_spec_R8History code).length : Int) + 1) (by omega); have hw1 : IntKind.wrap .i64 (((m_spec_R8History code).length : Int) + 1) = ((m_spec_R8History code).length : Int) + 1 := wr64 (by omega); have hw3 : IntKind.wrap .i64 (((m_spec_R8History code).length : Int) + 1 - 1) = ((m_spec_R8History code).length : Int) := (by rw [wr64 (by omega)]; omega); first | omega | (rw [hw1] at *; first | omega | (rw [wr64 (by omega)]; omega)) | (rw [hw3]; omega))); done) | ((exact wr64_le); done)) (sub_of [] ⟨rfl, rfl, rfl, rfl, trivial⟩ trivial rfl) rfl ?_ ?_
            · intro x1 i17
              obtain ⟨e18, e19, e20⟩ := i17
              try dsimp only at *
              refine run_seq ?_
              refine run_region (q_move .n (.t rfl) rfl <|
                  q_move .n (.t rfl) rfl <|
                  q_int .n (.t rfl) (.c rfl) rfl rfl <|
                  q_idx_rm .n (.t rfl) (.t rfl) sl_24 (fun _ => by first | omega | assumption | (simp only [List.length_append, List.length_cons, List.length_nil, List.length_replicate, put_len] at * <;> omega) | ((with_reducible exact undoV_memo _ _); done) | ((with_reducible exact at_memo (commitV_memo _ _ _) _); done) | ((with_reducible exact law_idx hp1.2 hp2.2 (by assumption)); done) | (((have h5 := hist5 hp1.2; have hw2 : IntKind.wrap .i64 (((m_spec_R8History code).length : Int) + 1 + 1) = ((m_spec_R8History code).length : Int) + 1 + 1 := wr64 (by omega); omega)); done) | ((with_reducible exact hp1.2); done) | ((with_reducible exact hp2.2); done) | ((exact (draw_state (Lim.from hp2.2)).1); done) | (((have h5 := hist5 hp1.2; omega)); done) | (((have h5 := hist5 hp1.2; have hr := r8At_rng hp2.2 (k := 0) (n := ((m_spec_R8History code).length : Int) + 1) (by omega); have hw1 : IntKind.wrap .i64 (((m_spec_R8History code).length : Int) + 1) = ((m_spec_R8History code).length : Int) + 1 := wr64 (by omega); have hw3 : IntKind.wrap .i64 (((m_spec_R8History code).length : Int) + 1 - 1) = ((m_spec_R8History code).length : Int) := (by rw [wr64 (by omega)]; omega); first | omega | (rw [hw1] at *; first | omega | (rw [wr64 (by omega)]; omega)) | (rw [hw3]; omega))); done) | ((exact wr64_le); done)) rfl <|
                  q_ldN_ro .n (.t rfl) ag_54 rfl rfl rfl <|
                  q_call0 (full := false) .n .f en_26 (.cons (.t rfl) .nil) (.cons (.sts rfl) .nil) (fun hg => c_impl_VersionText (at' (m_impl_CommitState (m_spec_R8History code) (m_laws_r8At more 0 (IntKind.wrap .i64 (((m_spec_R8History code).length : Int) + 1))) ([110, 101, 120, 116] : List UInt8) (m_spec_R8State more)).1 (IntKind.wrap .i64 ((((m_spec_R8History code).length : Int) + 1) - 1))) (by first | omega | assumption | (simp only [List.length_append, List.length_cons, List.length_nil, List.length_replicate, put_len] at * <;> omega) | ((with_reducible exact undoV_memo _ _); done) | ((with_reducible exact at_memo (commitV_memo _ _ _) _); done) | ((with_reducible exact law_idx hp1.2 hp2.2 (by assumption)); done) | (((have h5 := hist5 hp1.2; have hw2 : IntKind.wrap .i64 (((m_spec_R8History code).length : Int) + 1 + 1) = ((m_spec_R8History code).length : Int) + 1 + 1 := wr64 (by omega); omega)); done) | ((with_reducible exact hp1.2); done) | ((with_reducible exact hp2.2); done) | ((exact (draw_state (Lim.from hp2.2)).1); done) | (((have h5 := hist5 hp1.2; omega)); done) | (((have h5 := hist5 hp1.2; have hr := r8At_rng hp2.2 (k := 0) (n := ((m_spec_R8History code).length : Int) + 1) (by omega); have hw1 : IntKind.wrap .i64 (((m_spec_R8History code).length : Int) + 1) = ((m_spec_R8History code).length : Int) + 1 := wr64 (by omega); have hw3 : IntKind.wrap .i64 (((m_spec_R8History code).length : Int) + 1 - 1) = ((m_spec_R8History code).length : Int) := (by rw [wr64 (by omega)]; omega); first | omega | (rw [hw1] at *; first | omega | (rw [wr64 (by omega)]; omega)) | (rw [hw3]; omega))); done) | ((exact wr64_le); done))) rfl (fun h => Bool.noConfusion h) rfl <|
                  q_strcmp .n (.t rfl) (.c rfl) rfl rfl <|
                  q_assign .n (.t rfl) rfl <|
                  Lex.nil) ?_
              exact run_ret [] (.cons (.t rfl rfl) .nil) rfl trivial rfl
            · intro rec1 k1 hk12 x1 i13
              obtain ⟨e21, e22⟩ := i13
              try dsimp only at *
              refine run_seq ?_
              refine run_seq ?_
              refine run_region (q_move .n (.t rfl) rfl <|
                  q_move .n (.t rfl) rfl <|
                  q_len .n (.t rfl) rfl len_map ss_45 rfl <|
                  q_int .n (.t rfl) (.t rfl) rfl rfl <|
                  Lex.nil) ?_
              refine run_fact (t := 172) rfl fun hl => ?_
              have l14 := hl; clear hl; simp only [List.length_map] at l14
              refine run_cond (.t rfl) rfl (fun h15 => ?_) (fun h15 => ?_)
              · try simp only [Bool.and_eq_true, Bool.or_eq_true, Bool.not_eq_true', Bool.and_eq_false_iff, Bool.or_eq_false_iff, Bool.not_eq_false', decide_eq_true_eq, decide_eq_false_iff_not, beq_iff_eq, bne_iff_ne, beq_eq_false_iff_ne, bne_eq_false_iff_eq, Bool.true_and, ne_eq, Decidable.not_not, Int.not_lt, Int.not_le, Nat.not_lt, Nat.not_le, strB_nil, strB_nil', strB_nnil, strB_nnil'] at h15
                refine run_skip ?_
                refine run_seq ?_
                refine run_block ?_
                refine run_seq ?_
                refine run_draw fmo (q_move .n (.t rfl) rfl <|
                    q_move .n (.t rfl) rfl <|
                    q_idx_rm .n (.t rfl) (.t rfl) sl_45 (fun _ => by first | omega | assumption | (simp only [List.length_append, List.length_cons, List.length_nil, List.length_replicate, put_len] at * <;> omega) | ((with_reducible exact undoV_memo _ _); done) | ((with_reducible exact at_memo (commitV_memo _ _ _) _); done) | ((with_reducible exact law_idx hp1.2 hp2.2 (by assumption)); done) | (((have h5 := hist5 hp1.2; have hw2 : IntKind.wrap .i64 (((m_spec_R8History code).length : Int) + 1 + 1) = ((m_spec_R8History code).length : Int) + 1 + 1 := wr64 (by omega); omega)); done) | ((with_reducible exact hp1.2); done) | ((with_reducible exact hp2.2); done) | ((exact (draw_state (Lim.from hp2.2)).1); done) | (((have h5 := hist5 hp1.2; omega)); done) | (((have h5 := hist5 hp1.2; have hr := r8At_rng hp2.2 (k := 0) (n := ((m_spec_R8History code).length : Int) + 1) (by omega); have hw1 : IntKind.wrap .i64 (((m_spec_R8History code).length : Int) + 1) = ((m_spec_R8History code).length : Int) + 1 := wr64 (by omega); have hw3 : IntKind.wrap .i64 (((m_spec_R8History code).length : Int) + 1 - 1) = ((m_spec_R8History code).length : Int) := (by rw [wr64 (by omega)]; omega); first | omega | (rw [hw1] at *; first | omega | (rw [wr64 (by omega)]; omega)) | (rw [hw3]; omega))); done) | ((exact wr64_le); done)) rfl <|
                    q_ld1_ro .n (.t rfl) rfl ic_2 rfl <|
                    q_int .n (.t rfl) (.c rfl) rfl rfl <|
                    q_move .n (.t rfl) rfl <|
                    q_move (.f rfl rfl) (.t rfl) rfl <|
                    q_move (.f rfl rfl) (.t rfl) rfl <|
                    q_idx_rm (.f rfl rfl) (.u rfl id) (.u rfl id) sl_45 (fun hg => by simp only [Bool.and_eq_true, Bool.or_eq_true, Bool.not_eq_true', Bool.and_eq_false_iff, Bool.or_eq_false_iff, Bool.not_eq_false', decide_eq_true_eq, decide_eq_false_iff_not, beq_iff_eq, bne_iff_ne, beq_eq_false_iff_ne, bne_eq_false_iff_eq, Bool.true_and, ne_eq, Decidable.not_not, Int.not_lt, Int.not_le, Nat.not_lt, Nat.not_le, strB_nil, strB_nil', strB_nnil, strB_nnil'] at hg; first | omega | assumption | (simp only [List.length_append, List.length_cons, List.length_nil, List.length_replicate, put_len] at * <;> omega) | ((with_reducible exact undoV_memo _ _); done) | ((with_reducible exact at_memo (commitV_memo _ _ _) _); done) | ((with_reducible exact law_idx hp1.2 hp2.2 (by assumption)); done) | (((have h5 := hist5 hp1.2; have hw2 : IntKind.wrap .i64 (((m_spec_R8History code).length : Int) + 1 + 1) = ((m_spec_R8History code).length : Int) + 1 + 1 := wr64 (by omega); omega)); done) | ((with_reducible exact hp1.2); done) | ((with_reducible exact hp2.2); done) | ((exact (draw_state (Lim.from hp2.2)).1); done) | (((have h5 := hist5 hp1.2; omega)); done) | (((have h5 := hist5 hp1.2; have hr := r8At_rng hp2.2 (k := 0) (n := ((m_spec_R8History code).length : Int) + 1) (by omega); have hw1 : IntKind.wrap .i64 (((m_spec_R8History code).length : Int) + 1) = ((m_spec_R8History code).length : Int) + 1 := wr64 (by omega); have hw3 : IntKind.wrap .i64 (((m_spec_R8History code).length : Int) + 1 - 1) = ((m_spec_R8History code).length : Int) := (by rw [wr64 (by omega)]; omega); first | omega | (rw [hw1] at *; first | omega | (rw [wr64 (by omega)]; omega)) | (rw [hw3]; omega))); done) | ((exact wr64_le); done)) rfl <|
                    q_ld1_ro (.f rfl rfl) (.u rfl id) rfl ic_2 rfl <|
                    q_move (.f rfl rfl) (.t rfl) rfl <|
                    q_int (.f rfl rfl) (.u rfl id) (.u rfl id) rfl rfl <|
                    q_or .n (.t rfl) (.u rfl id) rfl <|
                    q_move .n (.t rfl) rfl <|
                    q_move (.f rfl rfl) (.t rfl) rfl <|
                    q_int (.f rfl rfl) (.u rfl id) (.c rfl) rfl rfl <|
                    q_move (.f rfl rfl) (.u rfl id) rfl <|
                    q_move (.t rfl rfl) (.t rfl) rfl <|
                    q_move (.t rfl rfl) (.t rfl) rfl <|
                    q_idx_rm (.t rfl rfl) (.u rfl id) (.u rfl id) sl_45 (fun hg => by simp only [Bool.and_eq_true, Bool.or_eq_true, Bool.not_eq_true', Bool.and_eq_false_iff, Bool.or_eq_false_iff, Bool.not_eq_false', decide_eq_true_eq, decide_eq_false_iff_not, beq_iff_eq, bne_iff_ne, beq_eq_false_iff_ne, bne_eq_false_iff_eq, Bool.true_and, ne_eq, Decidable.not_not, Int.not_lt, Int.not_le, Nat.not_lt, Nat.not_le, strB_nil, strB_nil', strB_nnil, strB_nnil'] at hg; first | omega | assumption | (simp only [List.length_append, List.length_cons, List.length_nil, List.length_replicate, put_len] at * <;> omega) | ((with_reducible exact undoV_memo _ _); done) | ((with_reducible exact at_memo (commitV_memo _ _ _) _); done) | ((with_reducible exact law_idx hp1.2 hp2.2 (by assumption)); done) | (((have h5 := hist5 hp1.2; have hw2 : IntKind.wrap .i64 (((m_spec_R8History code).length : Int) + 1 + 1) = ((m_spec_R8History code).length : Int) + 1 + 1 := wr64 (by omega); omega)); done) | ((with_reducible exact hp1.2); done) | ((with_reducible exact hp2.2); done) | ((exact (draw_state (Lim.from hp2.2)).1); done) | (((have h5 := hist5 hp1.2; omega)); done) | (((have h5 := hist5 hp1.2; have hr := r8At_rng hp2.2 (k := 0) (n := ((m_spec_R8History code).length : Int) + 1) (by omega); have hw1 : IntKind.wrap .i64 (((m_spec_R8History code).length : Int) + 1) = ((m_spec_R8History code).length : Int) + 1 := wr64 (by omega); have hw3 : IntKind.wrap .i64 (((m_spec_R8History code).length : Int) + 1 - 1) = ((m_spec_R8History code).length : Int) := (by rw [wr64 (by omega)]; omega); first | omega | (rw [hw1] at *; first | omega | (rw [wr64 (by omega)]; omega)) | (rw [hw3]; omega))); done) | ((exact wr64_le); done)) rfl <|
                    q_ld1_ro (.t rfl rfl) (.u rfl id) rfl ic_2 rfl <|
                    q_move (.t rfl rfl) (.t rfl) rfl <|
                    q_move (.t rfl rfl) (.t rfl) rfl <|
                    q_sub (.t rfl rfl) (.u rfl id) (.c rfl) (fun hg => by simp only [Bool.and_eq_true, Bool.or_eq_true, Bool.not_eq_true', Bool.and_eq_false_iff, Bool.or_eq_false_iff, Bool.not_eq_false', decide_eq_true_eq, decide_eq_false_iff_not, beq_iff_eq, bne_iff_ne, beq_eq_false_iff_ne, bne_eq_false_iff_eq, Bool.true_and, ne_eq, Decidable.not_not, Int.not_lt, Int.not_le, Nat.not_lt, Nat.not_le, strB_nil, strB_nil', strB_nnil, strB_nnil'] at hg; first | omega | assumption | (simp only [List.length_append, List.length_cons, List.length_nil, List.length_replicate, put_len] at * <;> omega) | ((with_reducible exact undoV_memo _ _); done) | ((with_reducible exact at_memo (commitV_memo _ _ _) _); done) | ((with_reducible exact law_idx hp1.2 hp2.2 (by assumption)); done) | (((have h5 := hist5 hp1.2; have hw2 : IntKind.wrap .i64 (((m_spec_R8History code).length : Int) + 1 + 1) = ((m_spec_R8History code).length : Int) + 1 + 1 := wr64 (by omega); omega)); done) | ((with_reducible exact hp1.2); done) | ((with_reducible exact hp2.2); done) | ((exact (draw_state (Lim.from hp2.2)).1); done) | (((have h5 := hist5 hp1.2; omega)); done) | (((have h5 := hist5 hp1.2; have hr := r8At_rng hp2.2 (k := 0) (n := ((m_spec_R8History code).length : Int) + 1) (by omega); have hw1 : IntKind.wrap .i64 (((m_spec_R8History code).length : Int) + 1) = ((m_spec_R8History code).length : Int) + 1 := wr64 (by omega); have hw3 : IntKind.wrap .i64 (((m_spec_R8History code).length : Int) + 1 - 1) = ((m_spec_R8History code).length : Int) := (by rw [wr64 (by omega)]; omega); first | omega | (rw [hw1] at *; first | omega | (rw [wr64 (by omega)]; omega)) | (rw [hw3]; omega))); done) | ((exact wr64_le); done)) rfl <|
                    q_idx_rm (.t rfl rfl) (.u rfl id) (.u rfl id) sl_45 (fun hg => by simp only [Bool.and_eq_true, Bool.or_eq_true, Bool.not_eq_true', Bool.and_eq_false_iff, Bool.or_eq_false_iff, Bool.not_eq_false', decide_eq_true_eq, decide_eq_false_iff_not, beq_iff_eq, bne_iff_ne, beq_eq_false_iff_ne, bne_eq_false_iff_eq, Bool.true_and, ne_eq, Decidable.not_not, Int.not_lt, Int.not_le, Nat.not_lt, Nat.not_le, strB_nil, strB_nil', strB_nnil, strB_nnil'] at hg; first | omega | assumption | (simp only [List.length_append, List.length_cons, List.length_nil, List.length_replicate, put_len] at * <;> omega) | ((with_reducible exact undoV_memo _ _); done) | ((with_reducible exact at_memo (commitV_memo _ _ _) _); done) | ((with_reducible exact law_idx hp1.2 hp2.2 (by assumption)); done) | (((have h5 := hist5 hp1.2; have hw2 : IntKind.wrap .i64 (((m_spec_R8History code).length : Int) + 1 + 1) = ((m_spec_R8History code).length : Int) + 1 + 1 := wr64 (by omega); omega)); done) | ((with_reducible exact hp1.2); done) | ((with_reducible exact hp2.2); done) | ((exact (draw_state (Lim.from hp2.2)).1); done) | (((have h5 := hist5 hp1.2; omega)); done) | (((have h5 := hist5 hp1.2; have hr := r8At_rng hp2.2 (k := 0) (n := ((m_spec_R8History code).length : Int) + 1) (by omega); have hw1 : IntKind.wrap .i64 (((m_spec_R8History code).length : Int) + 1) = ((m_spec_R8History code).length : Int) + 1 := wr64 (by omega); have hw3 : IntKind.wrap .i64 (((m_spec_R8History code).length : Int) + 1 - 1) = ((m_spec_R8History code).length : Int) := (by rw [wr64 (by omega)]; omega); first | omega | (rw [hw1] at *; first | omega | (rw [wr64 (by omega)]; omega)) | (rw [hw3]; omega))); done) | ((exact wr64_le); done)) rfl <|
                    q_ld1_ro (.t rfl rfl) (.u rfl id) rfl ic_2 rfl <|
                    q_int (.t rfl rfl) (.u rfl id) (.u rfl id) rfl rfl <|
                    q_and (.f rfl rfl) (.u rfl id) (.u rfl id) rfl <|
                    q_or .n (.t rfl) (.u rfl id) rfl <|
                    Lex.nil) (by kernel_rfl) ?_
                refine run_cond (.t rfl) rfl (fun h16 => ?_) (fun h16 => ?_)
                · try simp only [Bool.and_eq_true, Bool.or_eq_true, Bool.not_eq_true', Bool.and_eq_false_iff, Bool.or_eq_false_iff, Bool.not_eq_false', decide_eq_true_eq, decide_eq_false_iff_not, beq_iff_eq, bne_iff_ne, beq_eq_false_iff_ne, bne_eq_false_iff_eq, Bool.true_and, ne_eq, Decidable.not_not, Int.not_lt, Int.not_le, Nat.not_lt, Nat.not_le, strB_nil, strB_nil', strB_nnil, strB_nnil'] at h16
                  refine run_seq ?_
                  refine run_region (q_assign .n (.c rfl) rfl <|
                      Lex.nil) ?_
                  exact run_ret [] (.cons (.t rfl rfl) .nil) rfl trivial rfl
                · try simp only [Bool.and_eq_true, Bool.or_eq_true, Bool.not_eq_true', Bool.and_eq_false_iff, Bool.or_eq_false_iff, Bool.not_eq_false', decide_eq_true_eq, decide_eq_false_iff_not, beq_iff_eq, bne_iff_ne, beq_eq_false_iff_ne, bne_eq_false_iff_eq, Bool.true_and, ne_eq, Decidable.not_not, Int.not_lt, Int.not_le, Nat.not_lt, Nat.not_le, strB_nil, strB_nil', strB_nnil, strB_nnil'] at h16
                  refine run_skip ?_
                  refine run_endB ?_
                  refine run_region (q_move .n (.t rfl) rfl <|
                      q_add .n (.t rfl) (.c rfl) (fun _ => by first | omega | assumption | (simp only [List.length_append, List.length_cons, List.length_nil, List.length_replicate, put_len] at * <;> omega) | ((with_reducible exact undoV_memo _ _); done) | ((with_reducible exact at_memo (commitV_memo _ _ _) _); done) | ((with_reducible exact law_idx hp1.2 hp2.2 (by assumption)); done) | (((have h5 := hist5 hp1.2; have hw2 : IntKind.wrap .i64 (((m_spec_R8History code).length : Int) + 1 + 1) = ((m_spec_R8History code).length : Int) + 1 + 1 := wr64 (by omega); omega)); done) | ((with_reducible exact hp1.2); done) | ((with_reducible exact hp2.2); done) | ((exact (draw_state (Lim.from hp2.2)).1); done) | (((have h5 := hist5 hp1.2; omega)); done) | (((have h5 := hist5 hp1.2; have hr := r8At_rng hp2.2 (k := 0) (n := ((m_spec_R8History code).length : Int) + 1) (by omega); have hw1 : IntKind.wrap .i64 (((m_spec_R8History code).length : Int) + 1) = ((m_spec_R8History code).length : Int) + 1 := wr64 (by omega); have hw3 : IntKind.wrap .i64 (((m_spec_R8History code).length : Int) + 1 - 1) = ((m_spec_R8History code).length : Int) := (by rw [wr64 (by omega)]; omega); first | omega | (rw [hw1] at *; first | omega | (rw [wr64 (by omega)]; omega)) | (rw [hw3]; omega))); done) | ((exact wr64_le); done)) rfl <|
                      q_assign .n (.t rfl) rfl <|
                      Lex.nil) ?_
                  exact run_againG (x1 + 1) ⟨by first | omega | assumption | (simp only [List.length_append, List.length_cons, List.length_nil, List.length_replicate, put_len] at * <;> omega) | ((with_reducible exact undoV_memo _ _); done) | ((with_reducible exact at_memo (commitV_memo _ _ _) _); done) | ((with_reducible exact law_idx hp1.2 hp2.2 (by assumption)); done) | (((have h5 := hist5 hp1.2; have hw2 : IntKind.wrap .i64 (((m_spec_R8History code).length : Int) + 1 + 1) = ((m_spec_R8History code).length : Int) + 1 + 1 := wr64 (by omega); omega)); done) | ((with_reducible exact hp1.2); done) | ((with_reducible exact hp2.2); done) | ((exact (draw_state (Lim.from hp2.2)).1); done) | (((have h5 := hist5 hp1.2; omega)); done) | (((have h5 := hist5 hp1.2; have hr := r8At_rng hp2.2 (k := 0) (n := ((m_spec_R8History code).length : Int) + 1) (by omega); have hw1 : IntKind.wrap .i64 (((m_spec_R8History code).length : Int) + 1) = ((m_spec_R8History code).length : Int) + 1 := wr64 (by omega); have hw3 : IntKind.wrap .i64 (((m_spec_R8History code).length : Int) + 1 - 1) = ((m_spec_R8History code).length : Int) := (by rw [wr64 (by omega)]; omega); first | omega | (rw [hw1] at *; first | omega | (rw [wr64 (by omega)]; omega)) | (rw [hw3]; omega))); done) | ((exact wr64_le); done), by first | omega | assumption | (simp only [List.length_append, List.length_cons, List.length_nil, List.length_replicate, put_len] at * <;> omega) | ((with_reducible exact undoV_memo _ _); done) | ((with_reducible exact at_memo (commitV_memo _ _ _) _); done) | ((with_reducible exact law_idx hp1.2 hp2.2 (by assumption)); done) | (((have h5 := hist5 hp1.2; have hw2 : IntKind.wrap .i64 (((m_spec_R8History code).length : Int) + 1 + 1) = ((m_spec_R8History code).length : Int) + 1 + 1 := wr64 (by omega); omega)); done) | ((with_reducible exact hp1.2); done) | ((with_reducible exact hp2.2); done) | ((exact (draw_state (Lim.from hp2.2)).1); done) | (((have h5 := hist5 hp1.2; omega)); done) | (((have h5 := hist5 hp1.2; have hr := r8At_rng hp2.2 (k := 0) (n := ((m_spec_R8History code).length : Int) + 1) (by omega); have hw1 : IntKind.wrap .i64 (((m_spec_R8History code).length : Int) + 1) = ((m_spec_R8History code).length : Int) + 1 := wr64 (by omega); have hw3 : IntKind.wrap .i64 (((m_spec_R8History code).length : Int) + 1 - 1) = ((m_spec_R8History code).length : Int) := (by rw [wr64 (by omega)]; omega); first | omega | (rw [hw1] at *; first | omega | (rw [wr64 (by omega)]; omega)) | (rw [hw3]; omega))); done) | ((exact wr64_le); done)⟩ (by first | omega | assumption | (simp only [List.length_append, List.length_cons, List.length_nil, List.length_replicate, put_len] at * <;> omega) | ((with_reducible exact undoV_memo _ _); done) | ((with_reducible exact at_memo (commitV_memo _ _ _) _); done) | ((with_reducible exact law_idx hp1.2 hp2.2 (by assumption)); done) | (((have h5 := hist5 hp1.2; have hw2 : IntKind.wrap .i64 (((m_spec_R8History code).length : Int) + 1 + 1) = ((m_spec_R8History code).length : Int) + 1 + 1 := wr64 (by omega); omega)); done) | ((with_reducible exact hp1.2); done) | ((with_reducible exact hp2.2); done) | ((exact (draw_state (Lim.from hp2.2)).1); done) | (((have h5 := hist5 hp1.2; omega)); done) | (((have h5 := hist5 hp1.2; have hr := r8At_rng hp2.2 (k := 0) (n := ((m_spec_R8History code).length : Int) + 1) (by omega); have hw1 : IntKind.wrap .i64 (((m_spec_R8History code).length : Int) + 1) = ((m_spec_R8History code).length : Int) + 1 := wr64 (by omega); have hw3 : IntKind.wrap .i64 (((m_spec_R8History code).length : Int) + 1 - 1) = ((m_spec_R8History code).length : Int) := (by rw [wr64 (by omega)]; omega); first | omega | (rw [hw1] at *; first | omega | (rw [wr64 (by omega)]; omega)) | (rw [hw3]; omega))); done) | ((exact wr64_le); done)) (sub_of [] ⟨rfl, rfl, rfl, rfl, trivial⟩ trivial rfl)
              · try simp only [Bool.and_eq_true, Bool.or_eq_true, Bool.not_eq_true', Bool.and_eq_false_iff, Bool.or_eq_false_iff, Bool.not_eq_false', decide_eq_true_eq, decide_eq_false_iff_not, beq_iff_eq, bne_iff_ne, beq_eq_false_iff_ne, bne_eq_false_iff_eq, Bool.true_and, ne_eq, Decidable.not_not, Int.not_lt, Int.not_le, Nat.not_lt, Nat.not_le, strB_nil, strB_nil', strB_nnil, strB_nnil'] at h15
                refine run_exit rfl ?_
                exact run_cont hk12 x1 ⟨by first | omega | assumption | (simp only [List.length_append, List.length_cons, List.length_nil, List.length_replicate, put_len] at * <;> omega) | ((with_reducible exact undoV_memo _ _); done) | ((with_reducible exact at_memo (commitV_memo _ _ _) _); done) | ((with_reducible exact law_idx hp1.2 hp2.2 (by assumption)); done) | (((have h5 := hist5 hp1.2; have hw2 : IntKind.wrap .i64 (((m_spec_R8History code).length : Int) + 1 + 1) = ((m_spec_R8History code).length : Int) + 1 + 1 := wr64 (by omega); omega)); done) | ((with_reducible exact hp1.2); done) | ((with_reducible exact hp2.2); done) | ((exact (draw_state (Lim.from hp2.2)).1); done) | (((have h5 := hist5 hp1.2; omega)); done) | (((have h5 := hist5 hp1.2; have hr := r8At_rng hp2.2 (k := 0) (n := ((m_spec_R8History code).length : Int) + 1) (by omega); have hw1 : IntKind.wrap .i64 (((m_spec_R8History code).length : Int) + 1) = ((m_spec_R8History code).length : Int) + 1 := wr64 (by omega); have hw3 : IntKind.wrap .i64 (((m_spec_R8History code).length : Int) + 1 - 1) = ((m_spec_R8History code).length : Int) := (by rw [wr64 (by omega)]; omega); first | omega | (rw [hw1] at *; first | omega | (rw [wr64 (by omega)]; omega)) | (rw [hw3]; omega))); done) | ((exact wr64_le); done), by first | omega | assumption | (simp only [List.length_append, List.length_cons, List.length_nil, List.length_replicate, put_len] at * <;> omega) | ((with_reducible exact undoV_memo _ _); done) | ((with_reducible exact at_memo (commitV_memo _ _ _) _); done) | ((with_reducible exact law_idx hp1.2 hp2.2 (by assumption)); done) | (((have h5 := hist5 hp1.2; have hw2 : IntKind.wrap .i64 (((m_spec_R8History code).length : Int) + 1 + 1) = ((m_spec_R8History code).length : Int) + 1 + 1 := wr64 (by omega); omega)); done) | ((with_reducible exact hp1.2); done) | ((with_reducible exact hp2.2); done) | ((exact (draw_state (Lim.from hp2.2)).1); done) | (((have h5 := hist5 hp1.2; omega)); done) | (((have h5 := hist5 hp1.2; have hr := r8At_rng hp2.2 (k := 0) (n := ((m_spec_R8History code).length : Int) + 1) (by omega); have hw1 : IntKind.wrap .i64 (((m_spec_R8History code).length : Int) + 1) = ((m_spec_R8History code).length : Int) + 1 := wr64 (by omega); have hw3 : IntKind.wrap .i64 (((m_spec_R8History code).length : Int) + 1 - 1) = ((m_spec_R8History code).length : Int) := (by rw [wr64 (by omega)]; omega); first | omega | (rw [hw1] at *; first | omega | (rw [wr64 (by omega)]; omega)) | (rw [hw3]; omega))); done) | ((exact wr64_le); done), by first | omega | assumption | (simp only [List.length_append, List.length_cons, List.length_nil, List.length_replicate, put_len] at * <;> omega) | ((with_reducible exact undoV_memo _ _); done) | ((with_reducible exact at_memo (commitV_memo _ _ _) _); done) | ((with_reducible exact law_idx hp1.2 hp2.2 (by assumption)); done) | (((have h5 := hist5 hp1.2; have hw2 : IntKind.wrap .i64 (((m_spec_R8History code).length : Int) + 1 + 1) = ((m_spec_R8History code).length : Int) + 1 + 1 := wr64 (by omega); omega)); done) | ((with_reducible exact hp1.2); done) | ((with_reducible exact hp2.2); done) | ((exact (draw_state (Lim.from hp2.2)).1); done) | (((have h5 := hist5 hp1.2; omega)); done) | (((have h5 := hist5 hp1.2; have hr := r8At_rng hp2.2 (k := 0) (n := ((m_spec_R8History code).length : Int) + 1) (by omega); have hw1 : IntKind.wrap .i64 (((m_spec_R8History code).length : Int) + 1) = ((m_spec_R8History code).length : Int) + 1 := wr64 (by omega); have hw3 : IntKind.wrap .i64 (((m_spec_R8History code).length : Int) + 1 - 1) = ((m_spec_R8History code).length : Int) := (by rw [wr64 (by omega)]; omega); first | omega | (rw [hw1] at *; first | omega | (rw [wr64 (by omega)]; omega)) | (rw [hw3]; omega))); done) | ((exact wr64_le); done)⟩ (sub_of [] ⟨rfl, rfl, trivial⟩ trivial rfl)
        · refine run_cond (.t rfl) rfl (fun h10 => ?_) (fun h10 => ?_)
          · try simp only [Bool.and_eq_true, Bool.or_eq_true, Bool.not_eq_true', Bool.and_eq_false_iff, Bool.or_eq_false_iff, Bool.not_eq_false', decide_eq_true_eq, decide_eq_false_iff_not, beq_iff_eq, bne_iff_ne, beq_eq_false_iff_ne, bne_eq_false_iff_eq, Bool.true_and, ne_eq, Decidable.not_not, Int.not_lt, Int.not_le, Nat.not_lt, Nat.not_le, strB_nil, strB_nil', strB_nnil, strB_nnil'] at h10
            refine run_region (q_move .n (.t rfl) rfl <|
                q_move .n (.t rfl) rfl <|
                q_int .n (.t rfl) (.c rfl) rfl rfl <|
                q_idx_rm .n (.t rfl) (.t rfl) sl_24 (fun _ => by first | omega | assumption | (simp only [List.length_append, List.length_cons, List.length_nil, List.length_replicate, put_len] at * <;> omega) | ((with_reducible exact undoV_memo _ _); done) | ((with_reducible exact at_memo (commitV_memo _ _ _) _); done) | ((with_reducible exact law_idx hp1.2 hp2.2 (by assumption)); done) | (((have h5 := hist5 hp1.2; have hw2 : IntKind.wrap .i64 (((m_spec_R8History code).length : Int) + 1 + 1) = ((m_spec_R8History code).length : Int) + 1 + 1 := wr64 (by omega); omega)); done) | ((with_reducible exact hp1.2); done) | ((with_reducible exact hp2.2); done) | ((exact (draw_state (Lim.from hp2.2)).1); done) | (((have h5 := hist5 hp1.2; omega)); done) | (((have h5 := hist5 hp1.2; have hr := r8At_rng hp2.2 (k := 0) (n := ((m_spec_R8History code).length : Int) + 1) (by omega); have hw1 : IntKind.wrap .i64 (((m_spec_R8History code).length : Int) + 1) = ((m_spec_R8History code).length : Int) + 1 := wr64 (by omega); have hw3 : IntKind.wrap .i64 (((m_spec_R8History code).length : Int) + 1 - 1) = ((m_spec_R8History code).length : Int) := (by rw [wr64 (by omega)]; omega); first | omega | (rw [hw1] at *; first | omega | (rw [wr64 (by omega)]; omega)) | (rw [hw3]; omega))); done) | ((exact wr64_le); done)) rfl <|
                q_fld_ro .n (.t rfl) fo_54_3 rfl <|
                q_ld1_ro .n (.t rfl) rfl ic_34 rfl <|
                q_assign .n (.t rfl) rfl <|
                Lex.nil) ?_
            exact run_cont hj9 (at' (m_spec_R8History code) (IntKind.wrap .i64 ((m_laws_r8At more 0 (IntKind.wrap .i64 (((m_spec_R8History code).length : Int) + 1))) - 1))).State trivial (sub_of [] ⟨rfl, rfl, rfl, rfl, rfl, rfl, trivial⟩ ⟨rfl, trivial⟩ rfl)
          · try simp only [Bool.and_eq_true, Bool.or_eq_true, Bool.not_eq_true', Bool.and_eq_false_iff, Bool.or_eq_false_iff, Bool.not_eq_false', decide_eq_true_eq, decide_eq_false_iff_not, beq_iff_eq, bne_iff_ne, beq_eq_false_iff_ne, bne_eq_false_iff_eq, Bool.true_and, ne_eq, Decidable.not_not, Int.not_lt, Int.not_le, Nat.not_lt, Nat.not_le, strB_nil, strB_nil', strB_nnil, strB_nnil'] at h10
            refine run_skip ?_
            exact run_cont hj9 ([] : List gSetting) trivial (sub_of [] ⟨rfl, rfl, rfl, rfl, rfl, rfl, trivial⟩ ⟨rfl, trivial⟩ rfl)

end Go.Proofs.YtdkkcemlnjlebaaDoor
