/-
  THE WALKS: each Go function computes its model. Conditions: as each theorem states them (hp1, hp2 ..).
-/
import Derived.Test.YtdhehmaglhobjaaExactMergeStatesWalks1
set_option linter.unusedVariables false
set_option linter.unusedSimpArgs false
set_option linter.unusedSectionVars false
set_option linter.unnecessarySimpa false
namespace Go.Proofs.Ytdhehmaglhobjaa
open Go Go.RowKit Go.Proofs Go.Proofs.Ytdhehmaglhobjaa.E
/-! ### impl_onlyNameBytes -/
theorem c_impl_onlyNameBytes (s_ : List UInt8) (hp1 : s_.length ≤ 10) : Con Try.prog 103 [.str s_] [] (.bool (m_impl_onlyNameBytes s_)) ([]) := by
  refine con_intro (out := fun r : Bool => ((.bool r : V), ([] : List (Nat × Option O)))) (r := (m_impl_onlyNameBytes s_)) Try.func103 rfl Try.ntmps103 rfl ?_
  refine run_seq ?_
  refine run_region (q_assign .n (.c rfl) rfl <|
      Lex.nil) ?_
  refine run_seq ?_
  refine run_seq ?_
  refine run_region (q_move .n (.t rfl) rfl <|
      q_len .n (.t rfl) rfl rfl st_9 rfl <|
      q_move .n (.c rfl) rfl <|
      Lex.nil) ?_
  refine run_block ?_
  refine run_LOOP (m_impl_onlyNameBytes_b1 s_) _ _ _ rfl (fun (x1 : Int) => 0 ≤ x1 ∧ x1 ≤ (s_.length : Int)) (fun x1 => 0 ≤ x1 ∧ x1 ≤ (s_.length : Int) ∧ (s_.length : Int) ≤ x1) (fun x1 => ((s_.length : Int) - x1 : Int).toNat) (fun x1 => ⟨[(0, some (true, .str s_)), (6, some (true, .int .i64 (s_.length : Int))), (7, some (true, .int .i64 x1))], []⟩) (fun x1 => ⟨[], []⟩) ⟨by first | omega | assumption | (simp only [List.length_append, List.length_cons, List.length_nil, List.length_replicate, put_len] at * <;> omega), by first | omega | assumption | (simp only [List.length_append, List.length_cons, List.length_nil, List.length_replicate, put_len] at * <;> omega)⟩ (by first | omega | assumption | (simp only [List.length_append, List.length_cons, List.length_nil, List.length_replicate, put_len] at * <;> omega)) (sub_of [] ⟨rfl, rfl, rfl, trivial⟩ trivial rfl) ?_ ?_
  · intro x1 i5
    obtain ⟨e6, e7, e8⟩ := i5
    try dsimp only at *
    refine run_seq ?_
    refine run_region (q_assign .n (.c rfl) rfl <|
        Lex.nil) ?_
    exact run_ret [] (.cons (.t rfl rfl) .nil) rfl trivial rfl
  · intro rec1 k1 hk1 x1 i2
    obtain ⟨e9, e10⟩ := i2
    try dsimp only at *
    refine run_seq ?_
    refine run_region (q_int .n (.t rfl) (.t rfl) rfl rfl <|
        Lex.nil) ?_
    refine run_seq ?_
    refine run_cond (.t rfl) rfl (fun h3 => ?_) (fun h3 => ?_)
    · try simp only [Bool.and_eq_true, Bool.or_eq_true, Bool.not_eq_true', Bool.and_eq_false_iff, Bool.or_eq_false_iff, Bool.not_eq_false', decide_eq_true_eq, decide_eq_false_iff_not, beq_iff_eq, bne_iff_ne, beq_eq_false_iff_ne, bne_eq_false_iff_eq, Bool.true_and, ne_eq, Decidable.not_not, Int.not_lt, Int.not_le, Nat.not_lt, Nat.not_le, strB_nil, strB_nil', strB_nnil, strB_nnil'] at h3
      refine run_skip ?_
      refine run_seq ?_
      refine run_block ?_
      refine run_seq ?_
      refine run_region (q_move .n (.t rfl) rfl <|
          q_assign .n (.t rfl) rfl <|
          Lex.nil) ?_
      refine run_seq ?_
      refine run_region (q_move .n (.t rfl) rfl <|
          q_move .n (.t rfl) rfl <|
          q_strat .n (.t rfl) (.t rfl) st_9 (fun _ => by first | omega | assumption | (simp only [List.length_append, List.length_cons, List.length_nil, List.length_replicate, put_len] at * <;> omega)) rfl <|
          q_assign .n (.t rfl) rfl <|
          Lex.nil) ?_
      refine run_seq ?_
      refine run_region (q_move .n (.t rfl) rfl <|
          q_int .n (.t rfl) (.c rfl) rfl rfl <|
          q_move .n (.t rfl) rfl <|
          q_move (.f rfl rfl) (.t rfl) rfl <|
          q_int (.f rfl rfl) (.u rfl id) (.c rfl) rfl rfl <|
          q_or .n (.t rfl) (.u rfl id) rfl <|
          q_move .n (.t rfl) rfl <|
          q_move (.t rfl rfl) (.t rfl) rfl <|
          q_int (.t rfl rfl) (.u rfl id) (.c rfl) rfl rfl <|
          q_move (.t rfl rfl) (.u rfl id) rfl <|
          q_move (.f rfl rfl) (.t rfl) rfl <|
          q_int (.f rfl rfl) (.u rfl id) (.c rfl) rfl rfl <|
          q_or (.t rfl rfl) (.u rfl id) (.u rfl id) rfl <|
          q_and .n (.t rfl) (.u rfl id) rfl <|
          Lex.nil) ?_
      refine run_cond (.t rfl) rfl (fun h4 => ?_) (fun h4 => ?_)
      · try simp only [Bool.and_eq_true, Bool.or_eq_true, Bool.not_eq_true', Bool.and_eq_false_iff, Bool.or_eq_false_iff, Bool.not_eq_false', decide_eq_true_eq, decide_eq_false_iff_not, beq_iff_eq, bne_iff_ne, beq_eq_false_iff_ne, bne_eq_false_iff_eq, Bool.true_and, ne_eq, Decidable.not_not, Int.not_lt, Int.not_le, Nat.not_lt, Nat.not_le, strB_nil, strB_nil', strB_nnil, strB_nnil'] at h4
        refine run_seq ?_
        refine run_region (q_assign .n (.c rfl) rfl <|
            Lex.nil) ?_
        exact run_ret [] (.cons (.t rfl rfl) .nil) rfl trivial rfl
      · try simp only [Bool.and_eq_true, Bool.or_eq_true, Bool.not_eq_true', Bool.and_eq_false_iff, Bool.or_eq_false_iff, Bool.not_eq_false', decide_eq_true_eq, decide_eq_false_iff_not, beq_iff_eq, bne_iff_ne, beq_eq_false_iff_ne, bne_eq_false_iff_eq, Bool.true_and, ne_eq, Decidable.not_not, Int.not_lt, Int.not_le, Nat.not_lt, Nat.not_le, strB_nil, strB_nil', strB_nnil, strB_nnil'] at h4
        refine run_skip ?_
        refine run_endB ?_
        refine run_region (q_add .n (.t rfl) (.c rfl) (fun _ => by first | omega | assumption | (simp only [List.length_append, List.length_cons, List.length_nil, List.length_replicate, put_len] at * <;> omega)) rfl <|
            q_move .n (.t rfl) rfl <|
            Lex.nil) ?_
        exact run_again (x1 + 1) ⟨by first | omega | assumption | (simp only [List.length_append, List.length_cons, List.length_nil, List.length_replicate, put_len] at * <;> omega), by first | omega | assumption | (simp only [List.length_append, List.length_cons, List.length_nil, List.length_replicate, put_len] at * <;> omega)⟩ (by first | omega | assumption | (simp only [List.length_append, List.length_cons, List.length_nil, List.length_replicate, put_len] at * <;> omega)) (sub_of [] ⟨rfl, rfl, rfl, trivial⟩ trivial rfl)
    · try simp only [Bool.and_eq_true, Bool.or_eq_true, Bool.not_eq_true', Bool.and_eq_false_iff, Bool.or_eq_false_iff, Bool.not_eq_false', decide_eq_true_eq, decide_eq_false_iff_not, beq_iff_eq, bne_iff_ne, beq_eq_false_iff_ne, bne_eq_false_iff_eq, Bool.true_and, ne_eq, Decidable.not_not, Int.not_lt, Int.not_le, Nat.not_lt, Nat.not_le, strB_nil, strB_nil', strB_nnil, strB_nnil'] at h3
      refine run_exit rfl ?_
      exact run_cont hk1 x1 ⟨by first | omega | assumption | (simp only [List.length_append, List.length_cons, List.length_nil, List.length_replicate, put_len] at * <;> omega), by first | omega | assumption | (simp only [List.length_append, List.length_cons, List.length_nil, List.length_replicate, put_len] at * <;> omega), by first | omega | assumption | (simp only [List.length_append, List.length_cons, List.length_nil, List.length_replicate, put_len] at * <;> omega)⟩ (sub_of [] trivial trivial rfl)

/-! ### impl_IsName -/
theorem c_impl_IsName (s_ : List UInt8) : Con Try.prog 81 [.str s_] [] (.bool (m_impl_IsName s_)) ([]) := by
  refine con_intro (out := fun r : Bool => ((.bool r : V), ([] : List (Nat × Option O)))) (r := (m_impl_IsName s_)) Try.func81 rfl Try.ntmps81 rfl ?_
  refine run_seq ?_
  refine run_region (q_assign .n (.c rfl) rfl <|
      Lex.nil) ?_
  refine run_seq ?_
  refine run_seq ?_
  refine run_region (q_move .n (.t rfl) rfl <|
      q_len .n (.t rfl) rfl rfl st_9 rfl <|
      q_int .n (.t rfl) (.c rfl) rfl rfl <|
      q_move .n (.t rfl) rfl <|
      q_move (.f rfl rfl) (.t rfl) rfl <|
      q_len (.f rfl rfl) (.u rfl id) rfl rfl st_9 rfl <|
      q_int (.f rfl rfl) (.u rfl id) (.c rfl) rfl rfl <|
      q_or .n (.t rfl) (.u rfl id) rfl <|
      q_move .n (.t rfl) rfl <|
      q_move (.f rfl rfl) (.t rfl) rfl <|
      q_strat (.f rfl rfl) (.u rfl id) (.c rfl) st_9 (fun hg => by simp only [Bool.and_eq_true, Bool.or_eq_true, Bool.not_eq_true', Bool.and_eq_false_iff, Bool.or_eq_false_iff, Bool.not_eq_false', decide_eq_true_eq, decide_eq_false_iff_not, beq_iff_eq, bne_iff_ne, beq_eq_false_iff_ne, bne_eq_false_iff_eq, Bool.true_and, ne_eq, Decidable.not_not, Int.not_lt, Int.not_le, Nat.not_lt, Nat.not_le, strB_nil, strB_nil', strB_nnil, strB_nnil'] at hg; first | omega | assumption | (simp only [List.length_append, List.length_cons, List.length_nil, List.length_replicate, put_len] at * <;> omega)) rfl <|
      q_int (.f rfl rfl) (.u rfl id) (.c rfl) rfl rfl <|
      q_or .n (.t rfl) (.u rfl id) rfl <|
      q_move .n (.t rfl) rfl <|
      q_move (.f rfl rfl) (.t rfl) rfl <|
      q_strat (.f rfl rfl) (.u rfl id) (.c rfl) st_9 (fun hg => by simp only [Bool.and_eq_true, Bool.or_eq_true, Bool.not_eq_true', Bool.and_eq_false_iff, Bool.or_eq_false_iff, Bool.not_eq_false', decide_eq_true_eq, decide_eq_false_iff_not, beq_iff_eq, bne_iff_ne, beq_eq_false_iff_ne, bne_eq_false_iff_eq, Bool.true_and, ne_eq, Decidable.not_not, Int.not_lt, Int.not_le, Nat.not_lt, Nat.not_le, strB_nil, strB_nil', strB_nnil, strB_nnil'] at hg; first | omega | assumption | (simp only [List.length_append, List.length_cons, List.length_nil, List.length_replicate, put_len] at * <;> omega)) rfl <|
      q_int (.f rfl rfl) (.u rfl id) (.c rfl) rfl rfl <|
      q_or .n (.t rfl) (.u rfl id) rfl <|
      Lex.nil) ?_
  refine run_cond (.t rfl) rfl (fun h1 => ?_) (fun h1 => ?_)
  · try simp only [Bool.and_eq_true, Bool.or_eq_true, Bool.not_eq_true', Bool.and_eq_false_iff, Bool.or_eq_false_iff, Bool.not_eq_false', decide_eq_true_eq, decide_eq_false_iff_not, beq_iff_eq, bne_iff_ne, beq_eq_false_iff_ne, bne_eq_false_iff_eq, Bool.true_and, ne_eq, Decidable.not_not, Int.not_lt, Int.not_le, Nat.not_lt, Nat.not_le, strB_nil, strB_nil', strB_nnil, strB_nnil'] at h1
    refine run_seq ?_
    refine run_region (q_assign .n (.c rfl) rfl <|
        Lex.nil) ?_
    exact run_ret [] (.cons (.t rfl rfl) .nil) rfl trivial rfl
  · try simp only [Bool.and_eq_true, Bool.or_eq_true, Bool.not_eq_true', Bool.and_eq_false_iff, Bool.or_eq_false_iff, Bool.not_eq_false', decide_eq_true_eq, decide_eq_false_iff_not, beq_iff_eq, bne_iff_ne, beq_eq_false_iff_ne, bne_eq_false_iff_eq, Bool.true_and, ne_eq, Decidable.not_not, Int.not_lt, Int.not_le, Nat.not_lt, Nat.not_le, strB_nil, strB_nil', strB_nnil, strB_nnil'] at h1
    refine run_skip ?_
    refine run_seq ?_
    refine run_region (q_move .n (.t rfl) rfl <|
        q_call0 (full := false) .n .f en_103 (.cons (.t rfl) .nil) (.cons (.b (.a (.same rfl))) .nil) (fun hg => c_impl_onlyNameBytes s_ (by first | omega | assumption | (simp only [List.length_append, List.length_cons, List.length_nil, List.length_replicate, put_len] at * <;> omega))) rfl (fun h => Bool.noConfusion h) rfl <|
        q_assign .n (.t rfl) rfl <|
        Lex.nil) ?_
    exact run_ret [] (.cons (.t rfl rfl) .nil) rfl trivial rfl

/-! ### impl_Setting_valid -/
theorem c_impl_Setting_valid (x_ : gSetting) : Con Try.prog 68 [.st [.str x_.Name, .int .i64 x_.Value]] [] (.bool (m_impl_Setting_valid x_)) ([]) := by
  refine con_intro (out := fun r : Bool => ((.bool r : V), ([] : List (Nat × Option O)))) (r := (m_impl_Setting_valid x_)) Try.func68 rfl Try.ntmps68 rfl ?_
  refine run_seq ?_
  refine run_region (q_box (l := 200) .n rfl (.t rfl) rfl rfl rfl rfl <|
      q_assign .n (.c rfl) rfl <|
      Lex.nil) ?_
  refine run_seq ?_
  refine run_region (q_fld_ow .n (.t rfl) fo_65_0 rfl <|
      q_ld1_ow .n (.t rfl) rfl (.inr rfl) (fun _ => rfl) rfl ic_9 rfl <|
      q_call0 (full := false) .n .f en_81 (.cons (.t rfl) .nil) (.cons (.b (.a (.same rfl))) .nil) (fun hg => c_impl_IsName x_.Name) rfl (fun h => Bool.noConfusion h) rfl <|
      q_move .n (.t rfl) rfl <|
      q_fld_ow (.t rfl rfl) (.t rfl) fo_65_1 rfl <|
      q_ld1_ow (.t rfl rfl) (.u rfl id) rfl (.inr rfl) (fun _ => rfl) rfl ic_2 rfl <|
      q_call0 (full := false) (.t rfl rfl) .f en_80 (.cons (.u rfl id) (.cons (.c rfl) (.cons (.c rfl) .nil))) (.cons (.b (.a (.same rfl))) (.cons (.b (.a (.same rfl))) (.cons (.b (.a (.same rfl))) .nil))) (fun hg => c_impl_within x_.Value 0 1000) rfl (fun h => Bool.noConfusion h) rfl <|
      q_and .n (.t rfl) (.u rfl id) rfl <|
      q_assign .n (.t rfl) rfl <|
      Lex.nil) ?_
  exact run_ret [] (.cons (.t rfl rfl) .nil) rfl trivial rfl

/-! ### impl_ValidState -/
theorem c_impl_ValidState (list : List gSetting) : Con Try.prog 46 [.sl 2 (list.map gSetting.v)] [] (.bool (m_impl_ValidState list)) ([]) := by
  refine con_intro (out := fun r : Bool => ((.bool r : V), ([] : List (Nat × Option O)))) (r := (m_impl_ValidState list)) Try.func46 rfl Try.ntmps46 rfl ?_
  refine run_fact (t := 0) rfl fun hl => ?_
  have l1 := hl; clear hl; simp only [List.length_map] at l1
  refine run_seq ?_
  refine run_region (q_assign .n (.c rfl) rfl <|
      Lex.nil) ?_
  refine run_seq ?_
  refine run_seq ?_
  refine run_region (q_move .n (.t rfl) rfl <|
      q_len .n (.t rfl) rfl len_map ss_40 rfl <|
      q_int .n (.t rfl) (.c rfl) rfl rfl <|
      Lex.nil) ?_
  refine run_cond (.t rfl) rfl (fun h2 => ?_) (fun h2 => ?_)
  · try simp only [Bool.and_eq_true, Bool.or_eq_true, Bool.not_eq_true', Bool.and_eq_false_iff, Bool.or_eq_false_iff, Bool.not_eq_false', decide_eq_true_eq, decide_eq_false_iff_not, beq_iff_eq, bne_iff_ne, beq_eq_false_iff_ne, bne_eq_false_iff_eq, Bool.true_and, ne_eq, Decidable.not_not, Int.not_lt, Int.not_le, Nat.not_lt, Nat.not_le, strB_nil, strB_nil', strB_nnil, strB_nnil'] at h2
    refine run_seq ?_
    refine run_region (q_assign .n (.c rfl) rfl <|
        Lex.nil) ?_
    exact run_ret [] (.cons (.t rfl rfl) .nil) rfl trivial rfl
  · try simp only [Bool.and_eq_true, Bool.or_eq_true, Bool.not_eq_true', Bool.and_eq_false_iff, Bool.or_eq_false_iff, Bool.not_eq_false', decide_eq_true_eq, decide_eq_false_iff_not, beq_iff_eq, bne_iff_ne, beq_eq_false_iff_ne, bne_eq_false_iff_eq, Bool.true_and, ne_eq, Decidable.not_not, Int.not_lt, Int.not_le, Nat.not_lt, Nat.not_le, strB_nil, strB_nil', strB_nnil, strB_nnil'] at h2
    refine run_skip ?_
    refine run_seq ?_
    refine run_seq ?_
    refine run_region (q_move .n (.t rfl) rfl <|
        q_len .n (.t rfl) rfl len_map ss_40 rfl <|
        q_move .n (.c rfl) rfl <|
        Lex.nil) ?_
    refine run_block ?_
    refine run_LOOP (m_impl_ValidState_b1 list) _ _ _ rfl (fun (x1 : Int) => 0 ≤ x1 ∧ x1 ≤ (list.length : Int)) (fun x1 => 0 ≤ x1 ∧ x1 ≤ (list.length : Int) ∧ (list.length : Int) ≤ x1) (fun x1 => ((list.length : Int) - x1 : Int).toNat) (fun x1 => ⟨[(0, some (true, .sl 2 (list.map gSetting.v))), (8, some (true, .sl 2 (list.map gSetting.v))), (9, some (true, .int .i64 (list.length : Int))), (10, some (true, .int .i64 x1))], []⟩) (fun x1 => ⟨[], []⟩) ⟨by first | omega | assumption | (simp only [List.length_append, List.length_cons, List.length_nil, List.length_replicate, put_len] at * <;> omega), by first | omega | assumption | (simp only [List.length_append, List.length_cons, List.length_nil, List.length_replicate, put_len] at * <;> omega)⟩ (by first | omega | assumption | (simp only [List.length_append, List.length_cons, List.length_nil, List.length_replicate, put_len] at * <;> omega)) (sub_of [] ⟨rfl, rfl, rfl, rfl, trivial⟩ trivial rfl) ?_ ?_
    · intro x1 i7
      obtain ⟨e8, e9, e10⟩ := i7
      try dsimp only at *
      refine run_seq ?_
      refine run_region (q_assign .n (.c rfl) rfl <|
          Lex.nil) ?_
      exact run_ret [] (.cons (.t rfl rfl) .nil) rfl trivial rfl
    · intro rec1 k1 hk3 x1 i4
      obtain ⟨e11, e12⟩ := i4
      try dsimp only at *
      refine run_seq ?_
      refine run_region (q_int .n (.t rfl) (.t rfl) rfl rfl <|
          Lex.nil) ?_
      refine run_seq ?_
      refine run_cond (.t rfl) rfl (fun h5 => ?_) (fun h5 => ?_)
      · try simp only [Bool.and_eq_true, Bool.or_eq_true, Bool.not_eq_true', Bool.and_eq_false_iff, Bool.or_eq_false_iff, Bool.not_eq_false', decide_eq_true_eq, decide_eq_false_iff_not, beq_iff_eq, bne_iff_ne, beq_eq_false_iff_ne, bne_eq_false_iff_eq, Bool.true_and, ne_eq, Decidable.not_not, Int.not_lt, Int.not_le, Nat.not_lt, Nat.not_le, strB_nil, strB_nil', strB_nnil, strB_nnil'] at h5
        refine run_skip ?_
        refine run_seq ?_
        refine run_block ?_
        refine run_seq ?_
        refine run_region (q_move .n (.t rfl) rfl <|
            q_idx_rm .n (.t rfl) (.t rfl) sl_40 (fun _ => by first | omega | assumption | (simp only [List.length_append, List.length_cons, List.length_nil, List.length_replicate, put_len] at * <;> omega)) rfl <|
            q_ldN_ro .n (.t rfl) ag_65 rfl rfl rfl <|
            q_alloc (l := 200) .n rfl zv_65 rfl rfl <|
            q_assign .n (.t rfl) rfl <|
            q_st_boxm [.str (at' list x1).Name, .int .i64 (at' list x1).Value] .n rfl (.t rfl) (.t rfl) rfl ts_65 rfl rfl <|
            Lex.nil) ?_
        refine run_seq ?_
        refine run_draw fmo (q_ldN_ow .n (.t rfl) rfl (.inr rfl) ag_65 (fun _ => rfl) rfl rfl <|
            q_call0 (full := false) .n .f en_68 (.cons (.t rfl) .nil) (.cons (.sts rfl) .nil) (fun hg => c_impl_Setting_valid (at' list x1)) rfl (fun h => Bool.noConfusion h) rfl <|
            q_not .n (.t rfl) rfl <|
            q_move .n (.t rfl) rfl <|
            q_move (.f rfl rfl) (.t rfl) rfl <|
            q_int (.f rfl rfl) (.u rfl id) (.c rfl) rfl rfl <|
            q_move (.f rfl rfl) (.u rfl id) rfl <|
            q_fld_ow (.t rfl rfl) (.t rfl) fo_65_0 rfl <|
            q_ld1_ow (.t rfl rfl) (.u rfl id) rfl (.inr rfl) (fun _ => rfl) rfl ic_9 rfl <|
            q_move (.t rfl rfl) (.t rfl) rfl <|
            q_move (.t rfl rfl) (.t rfl) rfl <|
            q_sub (.t rfl rfl) (.u rfl id) (.c rfl) (fun hg => by simp only [Bool.and_eq_true, Bool.or_eq_true, Bool.not_eq_true', Bool.and_eq_false_iff, Bool.or_eq_false_iff, Bool.not_eq_false', decide_eq_true_eq, decide_eq_false_iff_not, beq_iff_eq, bne_iff_ne, beq_eq_false_iff_ne, bne_eq_false_iff_eq, Bool.true_and, ne_eq, Decidable.not_not, Int.not_lt, Int.not_le, Nat.not_lt, Nat.not_le, strB_nil, strB_nil', strB_nnil, strB_nnil'] at hg; first | omega | assumption | (simp only [List.length_append, List.length_cons, List.length_nil, List.length_replicate, put_len] at * <;> omega)) rfl <|
            q_idx_rm (.t rfl rfl) (.u rfl id) (.u rfl id) sl_40 (fun hg => by simp only [Bool.and_eq_true, Bool.or_eq_true, Bool.not_eq_true', Bool.and_eq_false_iff, Bool.or_eq_false_iff, Bool.not_eq_false', decide_eq_true_eq, decide_eq_false_iff_not, beq_iff_eq, bne_iff_ne, beq_eq_false_iff_ne, bne_eq_false_iff_eq, Bool.true_and, ne_eq, Decidable.not_not, Int.not_lt, Int.not_le, Nat.not_lt, Nat.not_le, strB_nil, strB_nil', strB_nnil, strB_nnil'] at hg; first | omega | assumption | (simp only [List.length_append, List.length_cons, List.length_nil, List.length_replicate, put_len] at * <;> omega)) rfl <|
            q_fld_ro (.t rfl rfl) (.u rfl id) fo_65_0 rfl <|
            q_ld1_ro (.t rfl rfl) (.u rfl id) rfl ic_9 rfl <|
            q_strcmp (.t rfl rfl) (.u rfl id) (.u rfl id) rfl rfl <|
            q_and (.f rfl rfl) (.u rfl id) (.u rfl id) rfl <|
            q_or .n (.t rfl) (.u rfl id) rfl <|
            Lex.nil) (by kernel_rfl) ?_
        refine run_cond (.t rfl) rfl (fun h6 => ?_) (fun h6 => ?_)
        · try simp only [Bool.and_eq_true, Bool.or_eq_true, Bool.not_eq_true', Bool.and_eq_false_iff, Bool.or_eq_false_iff, Bool.not_eq_false', decide_eq_true_eq, decide_eq_false_iff_not, beq_iff_eq, bne_iff_ne, beq_eq_false_iff_ne, bne_eq_false_iff_eq, Bool.true_and, ne_eq, Decidable.not_not, Int.not_lt, Int.not_le, Nat.not_lt, Nat.not_le, strB_nil, strB_nil', strB_nnil, strB_nnil'] at h6
          refine run_seq ?_
          refine run_region (q_assign .n (.c rfl) rfl <|
              Lex.nil) ?_
          exact run_ret [] (.cons (.t rfl rfl) .nil) rfl trivial rfl
        · try simp only [Bool.and_eq_true, Bool.or_eq_true, Bool.not_eq_true', Bool.and_eq_false_iff, Bool.or_eq_false_iff, Bool.not_eq_false', decide_eq_true_eq, decide_eq_false_iff_not, beq_iff_eq, bne_iff_ne, beq_eq_false_iff_ne, bne_eq_false_iff_eq, Bool.true_and, ne_eq, Decidable.not_not, Int.not_lt, Int.not_le, Nat.not_lt, Nat.not_le, strB_nil, strB_nil', strB_nnil, strB_nnil'] at h6
          refine run_skip ?_
          refine run_endB ?_
          refine run_region (q_add .n (.t rfl) (.c rfl) (fun _ => by first | omega | assumption | (simp only [List.length_append, List.length_cons, List.length_nil, List.length_replicate, put_len] at * <;> omega)) rfl <|
              q_move .n (.t rfl) rfl <|
              Lex.nil) ?_
          exact run_again (x1 + 1) ⟨by first | omega | assumption | (simp only [List.length_append, List.length_cons, List.length_nil, List.length_replicate, put_len] at * <;> omega), by first | omega | assumption | (simp only [List.length_append, List.length_cons, List.length_nil, List.length_replicate, put_len] at * <;> omega)⟩ (by first | omega | assumption | (simp only [List.length_append, List.length_cons, List.length_nil, List.length_replicate, put_len] at * <;> omega)) (sub_of [] ⟨rfl, rfl, rfl, rfl, trivial⟩ trivial rfl)
      · try simp only [Bool.and_eq_true, Bool.or_eq_true, Bool.not_eq_true', Bool.and_eq_false_iff, Bool.or_eq_false_iff, Bool.not_eq_false', decide_eq_true_eq, decide_eq_false_iff_not, beq_iff_eq, bne_iff_ne, beq_eq_false_iff_ne, bne_eq_false_iff_eq, Bool.true_and, ne_eq, Decidable.not_not, Int.not_lt, Int.not_le, Nat.not_lt, Nat.not_le, strB_nil, strB_nil', strB_nnil, strB_nnil'] at h5
        refine run_exit rfl ?_
        exact run_cont hk3 x1 ⟨by first | omega | assumption | (simp only [List.length_append, List.length_cons, List.length_nil, List.length_replicate, put_len] at * <;> omega), by first | omega | assumption | (simp only [List.length_append, List.length_cons, List.length_nil, List.length_replicate, put_len] at * <;> omega), by first | omega | assumption | (simp only [List.length_append, List.length_cons, List.length_nil, List.length_replicate, put_len] at * <;> omega)⟩ (sub_of [] trivial trivial rfl)

/-! ### slices_Sort_string -/


/-! ### slices_Compact_string -/


/-! ### impl_namesOf -/
theorem c_impl_namesOf (states : List (List gSetting)) (hp1 : states.length ≤ 3) (hp2 : ∀ y ∈ states, y.length ≤ 24) : Con Try.prog 50 [.sl 1 (states.map (slv 2 gSetting.v))] [] (.os 100 (m_impl_namesOf states).length) ([(100, some (.row 9 1 ((m_impl_namesOf states).map V.str)))]) := by
  refine con_intro (out := fun r : (List (List UInt8)) => ((.os 100 r.length : V), ([(100, some (.row 9 1 (r.map V.str)))] : List (Nat × Option O)))) (r := (m_impl_namesOf states)) Try.func50 rfl Try.ntmps50 rfl ?_
  refine run_fact (t := 0) rfl fun hl => ?_
  have l1 := hl; clear hl; simp only [List.length_map] at l1
  refine run_seq ?_
  refine run_region (q_assign .n (.c rfl) rfl <|
      Lex.nil) ?_
  refine run_seq ?_
  refine run_region (q_assign .n (.c rfl) rfl <|
      Lex.nil) ?_
  refine run_seq ?_
  refine run_seq ?_
  refine run_region (q_move .n (.t rfl) rfl <|
      q_len .n (.t rfl) rfl len_map ss_92 rfl <|
      q_move .n (.c rfl) rfl <|
      Lex.nil) ?_
  refine run_block ?_
  refine run_sub (sub_adopt (t := 3) (l := 200) (el := 9) (sz := 1) rfl rfl) ?_
  refine run_LOOP (m_impl_namesOf_b1 states) _ _ _ rfl (fun (x1 : (List (List UInt8)) × Int) => 0 ≤ x1.2 ∧ x1.2 ≤ (states.length : Int) ∧ (x1.1.length : Int) ≤ 24 * x1.2) (fun x1 => 0 ≤ x1.2 ∧ x1.2 ≤ (states.length : Int) ∧ (x1.1.length : Int) ≤ 24 * x1.2 ∧ (states.length : Int) ≤ x1.2) (fun x1 => ((states.length : Int) - x1.2 : Int).toNat) (fun x1 => ⟨[(3, some (true, .os 200 x1.1.length)), (8, some (true, .sl 1 (states.map (slv 2 gSetting.v)))), (9, some (true, .int .i64 (states.length : Int))), (10, some (true, .int .i64 x1.2))], [(200, some (.row 9 1 (x1.1.map V.str)))]⟩) (fun x1 => ⟨[(3, some (true, .os 200 x1.1.length))], [(200, some (.row 9 1 (x1.1.map V.str)))]⟩) ⟨by first | omega | assumption | (simp only [List.length_append, List.length_cons, List.length_nil, List.length_replicate, put_len] at * <;> omega) | ((have hq := at_all (i := x1.2) hp2 (by omega); first | omega | (dsimp only at *; omega))) | ((have hq := sortS_len x1.1; omega)) | ((have hq := at_all (i := x1.2) hp2 (by omega); simp only [List.length_append, List.length_cons, List.length_nil]; omega)), by first | omega | assumption | (simp only [List.length_append, List.length_cons, List.length_nil, List.length_replicate, put_len] at * <;> omega) | ((have hq := at_all (i := x1.2) hp2 (by omega); first | omega | (dsimp only at *; omega))) | ((have hq := sortS_len x1.1; omega)) | ((have hq := at_all (i := x1.2) hp2 (by omega); simp only [List.length_append, List.length_cons, List.length_nil]; omega)), by first | omega | assumption | (simp only [List.length_append, List.length_cons, List.length_nil, List.length_replicate, put_len] at * <;> omega) | ((have hq := at_all (i := x1.2) hp2 (by omega); first | omega | (dsimp only at *; omega))) | ((have hq := sortS_len x1.1; omega)) | ((have hq := at_all (i := x1.2) hp2 (by omega); simp only [List.length_append, List.length_cons, List.length_nil]; omega))⟩ (by first | omega | assumption | (simp only [List.length_append, List.length_cons, List.length_nil, List.length_replicate, put_len] at * <;> omega) | ((have hq := at_all (i := x1.2) hp2 (by omega); first | omega | (dsimp only at *; omega))) | ((have hq := sortS_len x1.1; omega)) | ((have hq := at_all (i := x1.2) hp2 (by omega); simp only [List.length_append, List.length_cons, List.length_nil]; omega))) (sub_of [] ⟨rfl, rfl, rfl, rfl, trivial⟩ ⟨rfl, trivial⟩ rfl) ?_ ?_
  · intro x1 i19
    obtain ⟨e20, e21, e22, e23⟩ := i19
    try dsimp only at *
    refine run_seq ?_
    refine run_region (q_move .n (.t rfl) rfl <|
        q_callM (full := false) [(0, 200)] [] .n rfl .f en_63 (.cons (.t rfl) .nil) (.cons (.b (muts_len rfl (by first | rfl | exact sortS_len _))) .nil) (c_slices_Sort_string x1.1 (by first | omega | assumption | (simp only [List.length_append, List.length_cons, List.length_nil, List.length_replicate, put_len] at * <;> omega) | ((have hq := at_all (i := x1.2) hp2 (by omega); first | omega | (dsimp only at *; omega))) | ((have hq := sortS_len x1.1; omega)) | ((have hq := at_all (i := x1.2) hp2 (by omega); simp only [List.length_append, List.length_cons, List.length_nil]; omega)))) ⟨rfl, trivial⟩ rfl rfl (fun h => Bool.noConfusion h) (fun h => Bool.noConfusion h) rfl <|
        Lex.nil) ?_
    refine run_seq ?_
    refine run_region (q_move .n (.t rfl) rfl <|
        q_callM (full := false) [(0, 200)] [] .n rfl .f en_64 (.cons (.t rfl) .nil) (.cons (.b (muts_len rfl (by first | rfl | exact sortS_len _))) .nil) (c_slices_Compact_string (m_slices_Sort_string x1.1) (by first | omega | assumption | (simp only [List.length_append, List.length_cons, List.length_nil, List.length_replicate, put_len] at * <;> omega) | ((have hq := at_all (i := x1.2) hp2 (by omega); first | omega | (dsimp only at *; omega))) | ((have hq := sortS_len x1.1; omega)) | ((have hq := at_all (i := x1.2) hp2 (by omega); simp only [List.length_append, List.length_cons, List.length_nil]; omega)))) ⟨rfl, trivial⟩ rfl rfl (fun h => Bool.noConfusion h) (fun h => Bool.noConfusion h) rfl <|
        q_assign .n (.t rfl) rfl <|
        Lex.nil) ?_
    exact run_ret [(100, 200)] (.cons (.t rfl rfl) .nil) (by first | rfl | (simp only [put_len]; rfl)) ⟨rfl, trivial⟩ rfl
  · intro rec1 k1 hk2 x1 i3
    obtain ⟨e24, e25, e26⟩ := i3
    try dsimp only at *
    refine run_seq ?_
    refine run_region (q_int .n (.t rfl) (.t rfl) rfl rfl <|
        Lex.nil) ?_
    refine run_seq ?_
    refine run_cond (.t rfl) rfl (fun h4 => ?_) (fun h4 => ?_)
    · try simp only [Bool.and_eq_true, Bool.or_eq_true, Bool.not_eq_true', Bool.and_eq_false_iff, Bool.or_eq_false_iff, Bool.not_eq_false', decide_eq_true_eq, decide_eq_false_iff_not, beq_iff_eq, bne_iff_ne, beq_eq_false_iff_ne, bne_eq_false_iff_eq, Bool.true_and, ne_eq, Decidable.not_not, Int.not_lt, Int.not_le, Nat.not_lt, Nat.not_le, strB_nil, strB_nil', strB_nnil, strB_nnil'] at h4
      refine run_skip ?_
      refine run_seq ?_
      refine run_block ?_
      refine run_seq ?_
      refine run_region (q_idx_rm .n (.t rfl) (.t rfl) sl_92 (fun _ => by first | omega | assumption | (simp only [List.length_append, List.length_cons, List.length_nil, List.length_replicate, put_len] at * <;> omega) | ((have hq := at_all (i := x1.2) hp2 (by omega); first | omega | (dsimp only at *; omega))) | ((have hq := sortS_len x1.1; omega)) | ((have hq := at_all (i := x1.2) hp2 (by omega); simp only [List.length_append, List.length_cons, List.length_nil]; omega))) rfl <|
          q_ld1_ro .n (.t rfl) rfl ic_40 rfl <|
          q_assign .n (.t rfl) rfl <|
          Lex.nil) ?_
      refine run_seq ?_
      refine run_region (q_move .n (.t rfl) rfl <|
          q_len .n (.t rfl) rfl len_map ss_40 rfl <|
          q_move .n (.c rfl) rfl <|
          Lex.nil) ?_
      refine run_fact (t := 14) rfl fun hl => ?_
      have l5 := hl; clear hl; simp only [List.length_map] at l5
      refine run_block ?_
      refine run_LOOP (m_impl_namesOf_b2 states rec1 k1 x1) _ _ _ rfl (fun (x2 : (List (List UInt8)) × Int) => 0 ≤ x2.2 ∧ x2.2 ≤ ((at' states x1.2).length : Int) ∧ (x2.1.length : Int) + 0 ≤ x2.2 + (x1.1.length : Int) ∧ (x2.1.length : Int) ≤ 24 * x1.2 + x2.2) (fun x2 => 0 ≤ x2.2 ∧ x2.2 ≤ ((at' states x1.2).length : Int) ∧ (x2.1.length : Int) + 0 ≤ x2.2 + (x1.1.length : Int) ∧ (x2.1.length : Int) ≤ 24 * x1.2 + x2.2 ∧ ((at' states x1.2).length : Int) ≤ x2.2) (fun x2 => (((at' states x1.2).length : Int) - x2.2 : Int).toNat) (fun x2 => ⟨[(3, some (true, .os 200 x2.1.length)), (8, some (true, .sl 1 (states.map (slv 2 gSetting.v)))), (9, some (true, .int .i64 (states.length : Int))), (10, some (true, .int .i64 x1.2)), (14, some (true, .sl 2 ((at' states x1.2).map gSetting.v))), (15, some (true, .int .i64 ((at' states x1.2).length : Int))), (16, some (true, .int .i64 x2.2))], [(200, some (.row 9 1 (x2.1.map V.str)))]⟩) (fun x2 => ⟨[(3, some (true, .os 200 x2.1.length)), (8, some (true, .sl 1 (states.map (slv 2 gSetting.v)))), (9, some (true, .int .i64 (states.length : Int))), (10, some (true, .int .i64 x1.2))], [(200, some (.row 9 1 (x2.1.map V.str)))]⟩) ⟨by first | omega | assumption | (simp only [List.length_append, List.length_cons, List.length_nil, List.length_replicate, put_len] at * <;> omega) | ((have hq := at_all (i := x1.2) hp2 (by omega); first | omega | (dsimp only at *; omega))) | ((have hq := sortS_len x1.1; omega)) | ((have hq := at_all (i := x1.2) hp2 (by omega); simp only [List.length_append, List.length_cons, List.length_nil]; omega)), by first | omega | assumption | (simp only [List.length_append, List.length_cons, List.length_nil, List.length_replicate, put_len] at * <;> omega) | ((have hq := at_all (i := x1.2) hp2 (by omega); first | omega | (dsimp only at *; omega))) | ((have hq := sortS_len x1.1; omega)) | ((have hq := at_all (i := x1.2) hp2 (by omega); simp only [List.length_append, List.length_cons, List.length_nil]; omega)), by first | omega | assumption | (simp only [List.length_append, List.length_cons, List.length_nil, List.length_replicate, put_len] at * <;> omega) | ((have hq := at_all (i := x1.2) hp2 (by omega); first | omega | (dsimp only at *; omega))) | ((have hq := sortS_len x1.1; omega)) | ((have hq := at_all (i := x1.2) hp2 (by omega); simp only [List.length_append, List.length_cons, List.length_nil]; omega)), by first | omega | assumption | (simp only [List.length_append, List.length_cons, List.length_nil, List.length_replicate, put_len] at * <;> omega) | ((have hq := at_all (i := x1.2) hp2 (by omega); first | omega | (dsimp only at *; omega))) | ((have hq := sortS_len x1.1; omega)) | ((have hq := at_all (i := x1.2) hp2 (by omega); simp only [List.length_append, List.length_cons, List.length_nil]; omega))⟩ (by first | omega | assumption | (simp only [List.length_append, List.length_cons, List.length_nil, List.length_replicate, put_len] at * <;> omega) | ((have hq := at_all (i := x1.2) hp2 (by omega); first | omega | (dsimp only at *; omega))) | ((have hq := sortS_len x1.1; omega)) | ((have hq := at_all (i := x1.2) hp2 (by omega); simp only [List.length_append, List.length_cons, List.length_nil]; omega))) (sub_of [] ⟨rfl, rfl, rfl, rfl, rfl, rfl, rfl, trivial⟩ ⟨rfl, trivial⟩ rfl) ?_ ?_
      · intro x2 i9
        obtain ⟨e10, e11, e12, e13, e14⟩ := i9
        try dsimp only at *
        refine run_endB ?_
        refine run_region (q_add .n (.t rfl) (.c rfl) (fun _ => by first | omega | assumption | (simp only [List.length_append, List.length_cons, List.length_nil, List.length_replicate, put_len] at * <;> omega) | ((have hq := at_all (i := x1.2) hp2 (by omega); first | omega | (dsimp only at *; omega))) | ((have hq := sortS_len x1.1; omega)) | ((have hq := at_all (i := x1.2) hp2 (by omega); simp only [List.length_append, List.length_cons, List.length_nil]; omega))) rfl <|
            q_move .n (.t rfl) rfl <|
            Lex.nil) ?_
        exact run_again (x2.1, x1.2 + 1) ⟨by first | omega | assumption | (simp only [List.length_append, List.length_cons, List.length_nil, List.length_replicate, put_len] at * <;> omega) | ((have hq := at_all (i := x1.2) hp2 (by omega); first | omega | (dsimp only at *; omega))) | ((have hq := sortS_len x1.1; omega)) | ((have hq := at_all (i := x1.2) hp2 (by omega); simp only [List.length_append, List.length_cons, List.length_nil]; omega)), by first | omega | assumption | (simp only [List.length_append, List.length_cons, List.length_nil, List.length_replicate, put_len] at * <;> omega) | ((have hq := at_all (i := x1.2) hp2 (by omega); first | omega | (dsimp only at *; omega))) | ((have hq := sortS_len x1.1; omega)) | ((have hq := at_all (i := x1.2) hp2 (by omega); simp only [List.length_append, List.length_cons, List.length_nil]; omega)), by first | omega | assumption | (simp only [List.length_append, List.length_cons, List.length_nil, List.length_replicate, put_len] at * <;> omega) | ((have hq := at_all (i := x1.2) hp2 (by omega); first | omega | (dsimp only at *; omega))) | ((have hq := sortS_len x1.1; omega)) | ((have hq := at_all (i := x1.2) hp2 (by omega); simp only [List.length_append, List.length_cons, List.length_nil]; omega))⟩ (by first | omega | assumption | (simp only [List.length_append, List.length_cons, List.length_nil, List.length_replicate, put_len] at * <;> omega) | ((have hq := at_all (i := x1.2) hp2 (by omega); first | omega | (dsimp only at *; omega))) | ((have hq := sortS_len x1.1; omega)) | ((have hq := at_all (i := x1.2) hp2 (by omega); simp only [List.length_append, List.length_cons, List.length_nil]; omega))) (sub_of [] ⟨rfl, rfl, rfl, rfl, trivial⟩ ⟨rfl, trivial⟩ rfl)
      · intro rec2 k2 hk6 x2 i7
        obtain ⟨e15, e16, e17, e18⟩ := i7
        try dsimp only at *
        refine run_seq ?_
        refine run_region (q_int .n (.t rfl) (.t rfl) rfl rfl <|
            Lex.nil) ?_
        refine run_seq ?_
        refine run_cond (.t rfl) rfl (fun h8 => ?_) (fun h8 => ?_)
        · try simp only [Bool.and_eq_true, Bool.or_eq_true, Bool.not_eq_true', Bool.and_eq_false_iff, Bool.or_eq_false_iff, Bool.not_eq_false', decide_eq_true_eq, decide_eq_false_iff_not, beq_iff_eq, bne_iff_ne, beq_eq_false_iff_ne, bne_eq_false_iff_eq, Bool.true_and, ne_eq, Decidable.not_not, Int.not_lt, Int.not_le, Nat.not_lt, Nat.not_le, strB_nil, strB_nil', strB_nnil, strB_nnil'] at h8
          refine run_skip ?_
          refine run_seq ?_
          refine run_block ?_
          refine run_seq ?_
          refine run_region (q_idx_rm .n (.t rfl) (.t rfl) sl_40 (fun _ => by first | omega | assumption | (simp only [List.length_append, List.length_cons, List.length_nil, List.length_replicate, put_len] at * <;> omega) | ((have hq := at_all (i := x1.2) hp2 (by omega); first | omega | (dsimp only at *; omega))) | ((have hq := sortS_len x1.1; omega)) | ((have hq := at_all (i := x1.2) hp2 (by omega); simp only [List.length_append, List.length_cons, List.length_nil]; omega))) rfl <|
              q_ldN_ro .n (.t rfl) ag_65 rfl rfl rfl <|
              q_alloc (l := 201) .n rfl zv_65 rfl rfl <|
              q_st_boxm [.str (at' (at' states x1.2) x2.2).Name, .int .i64 (at' (at' states x1.2) x2.2).Value] .n rfl (.t rfl) (.t rfl) rfl ts_65 rfl rfl <|
              Lex.nil) ?_
          refine run_region (q_move .n (.t rfl) rfl <|
              q_fld_ow .n (.t rfl) fo_65_0 rfl <|
              q_ld1_ow .n (.t rfl) rfl (.inr rfl) (fun _ => rfl) rfl ic_9 rfl <|
              q_bslicem ([(at' (at' states x1.2) x2.2).Name] : List (List UInt8)) (f := V.str) (l := 202) .n rfl rfl (.cons (.t rfl) .nil) rfl si_30 zv_9 rfl rfl rfl <|
              q_appm (xs := x2.1) (ys := ([(at' (at' states x1.2) x2.2).Name] : List (List UInt8))) (f := V.str) (l := 203) .n rfl (.ow (.t rfl) rfl (take_all (by simp only [len_map, put_len] <;> rfl)) (by simp only [len_map, put_len] <;> rfl)) (.ow (.t rfl) rfl (take_all (by simp only [len_map, put_len] <;> rfl)) (by simp only [len_map, put_len] <;> rfl)) si_30 zv_9 rfl (by first | omega | assumption | (simp only [List.length_append, List.length_cons, List.length_nil, List.length_replicate, put_len] at * <;> omega) | ((have hq := at_all (i := x1.2) hp2 (by omega); first | omega | (dsimp only at *; omega))) | ((have hq := sortS_len x1.1; omega)) | ((have hq := at_all (i := x1.2) hp2 (by omega); simp only [List.length_append, List.length_cons, List.length_nil]; omega))) rfl rfl <|
              q_assign .n (.t rfl) rfl <|
              Lex.nil) ?_
          refine run_endB ?_
          refine run_region (q_add .n (.t rfl) (.c rfl) (fun _ => by first | omega | assumption | (simp only [List.length_append, List.length_cons, List.length_nil, List.length_replicate, put_len] at * <;> omega) | ((have hq := at_all (i := x1.2) hp2 (by omega); first | omega | (dsimp only at *; omega))) | ((have hq := sortS_len x1.1; omega)) | ((have hq := at_all (i := x1.2) hp2 (by omega); simp only [List.length_append, List.length_cons, List.length_nil]; omega))) rfl <|
              q_move .n (.t rfl) rfl <|
              Lex.nil) ?_
          exact run_again (x2.1 ++ ([(at' (at' states x1.2) x2.2).Name] : List (List UInt8)), x2.2 + 1) ⟨by first | omega | assumption | (simp only [List.length_append, List.length_cons, List.length_nil, List.length_replicate, put_len] at * <;> omega) | ((have hq := at_all (i := x1.2) hp2 (by omega); first | omega | (dsimp only at *; omega))) | ((have hq := sortS_len x1.1; omega)) | ((have hq := at_all (i := x1.2) hp2 (by omega); simp only [List.length_append, List.length_cons, List.length_nil]; omega)), by first | omega | assumption | (simp only [List.length_append, List.length_cons, List.length_nil, List.length_replicate, put_len] at * <;> omega) | ((have hq := at_all (i := x1.2) hp2 (by omega); first | omega | (dsimp only at *; omega))) | ((have hq := sortS_len x1.1; omega)) | ((have hq := at_all (i := x1.2) hp2 (by omega); simp only [List.length_append, List.length_cons, List.length_nil]; omega)), by first | omega | assumption | (simp only [List.length_append, List.length_cons, List.length_nil, List.length_replicate, put_len] at * <;> omega) | ((have hq := at_all (i := x1.2) hp2 (by omega); first | omega | (dsimp only at *; omega))) | ((have hq := sortS_len x1.1; omega)) | ((have hq := at_all (i := x1.2) hp2 (by omega); simp only [List.length_append, List.length_cons, List.length_nil]; omega)), by first | omega | assumption | (simp only [List.length_append, List.length_cons, List.length_nil, List.length_replicate, put_len] at * <;> omega) | ((have hq := at_all (i := x1.2) hp2 (by omega); first | omega | (dsimp only at *; omega))) | ((have hq := sortS_len x1.1; omega)) | ((have hq := at_all (i := x1.2) hp2 (by omega); simp only [List.length_append, List.length_cons, List.length_nil]; omega))⟩ (by first | omega | assumption | (simp only [List.length_append, List.length_cons, List.length_nil, List.length_replicate, put_len] at * <;> omega) | ((have hq := at_all (i := x1.2) hp2 (by omega); first | omega | (dsimp only at *; omega))) | ((have hq := sortS_len x1.1; omega)) | ((have hq := at_all (i := x1.2) hp2 (by omega); simp only [List.length_append, List.length_cons, List.length_nil]; omega))) (sub_of [(200, 203)] ⟨rfl, rfl, rfl, rfl, rfl, rfl, rfl, trivial⟩ ⟨rfl, trivial⟩ rfl)
        · try simp only [Bool.and_eq_true, Bool.or_eq_true, Bool.not_eq_true', Bool.and_eq_false_iff, Bool.or_eq_false_iff, Bool.not_eq_false', decide_eq_true_eq, decide_eq_false_iff_not, beq_iff_eq, bne_iff_ne, beq_eq_false_iff_ne, bne_eq_false_iff_eq, Bool.true_and, ne_eq, Decidable.not_not, Int.not_lt, Int.not_le, Nat.not_lt, Nat.not_le, strB_nil, strB_nil', strB_nnil, strB_nnil'] at h8
          refine run_exit rfl ?_
          exact run_cont hk6 (x2.1, x2.2) ⟨by first | omega | assumption | (simp only [List.length_append, List.length_cons, List.length_nil, List.length_replicate, put_len] at * <;> omega) | ((have hq := at_all (i := x1.2) hp2 (by omega); first | omega | (dsimp only at *; omega))) | ((have hq := sortS_len x1.1; omega)) | ((have hq := at_all (i := x1.2) hp2 (by omega); simp only [List.length_append, List.length_cons, List.length_nil]; omega)), by first | omega | assumption | (simp only [List.length_append, List.length_cons, List.length_nil, List.length_replicate, put_len] at * <;> omega) | ((have hq := at_all (i := x1.2) hp2 (by omega); first | omega | (dsimp only at *; omega))) | ((have hq := sortS_len x1.1; omega)) | ((have hq := at_all (i := x1.2) hp2 (by omega); simp only [List.length_append, List.length_cons, List.length_nil]; omega)), by first | omega | assumption | (simp only [List.length_append, List.length_cons, List.length_nil, List.length_replicate, put_len] at * <;> omega) | ((have hq := at_all (i := x1.2) hp2 (by omega); first | omega | (dsimp only at *; omega))) | ((have hq := sortS_len x1.1; omega)) | ((have hq := at_all (i := x1.2) hp2 (by omega); simp only [List.length_append, List.length_cons, List.length_nil]; omega)), by first | omega | assumption | (simp only [List.length_append, List.length_cons, List.length_nil, List.length_replicate, put_len] at * <;> omega) | ((have hq := at_all (i := x1.2) hp2 (by omega); first | omega | (dsimp only at *; omega))) | ((have hq := sortS_len x1.1; omega)) | ((have hq := at_all (i := x1.2) hp2 (by omega); simp only [List.length_append, List.length_cons, List.length_nil]; omega)), by first | omega | assumption | (simp only [List.length_append, List.length_cons, List.length_nil, List.length_replicate, put_len] at * <;> omega) | ((have hq := at_all (i := x1.2) hp2 (by omega); first | omega | (dsimp only at *; omega))) | ((have hq := sortS_len x1.1; omega)) | ((have hq := at_all (i := x1.2) hp2 (by omega); simp only [List.length_append, List.length_cons, List.length_nil]; omega))⟩ (sub_of [] ⟨rfl, rfl, rfl, rfl, trivial⟩ ⟨rfl, trivial⟩ rfl)
    · try simp only [Bool.and_eq_true, Bool.or_eq_true, Bool.not_eq_true', Bool.and_eq_false_iff, Bool.or_eq_false_iff, Bool.not_eq_false', decide_eq_true_eq, decide_eq_false_iff_not, beq_iff_eq, bne_iff_ne, beq_eq_false_iff_ne, bne_eq_false_iff_eq, Bool.true_and, ne_eq, Decidable.not_not, Int.not_lt, Int.not_le, Nat.not_lt, Nat.not_le, strB_nil, strB_nil', strB_nnil, strB_nnil'] at h4
      refine run_exit rfl ?_
      exact run_cont hk2 (x1.1, x1.2) ⟨by first | omega | assumption | (simp only [List.length_append, List.length_cons, List.length_nil, List.length_replicate, put_len] at * <;> omega) | ((have hq := at_all (i := x1.2) hp2 (by omega); first | omega | (dsimp only at *; omega))) | ((have hq := sortS_len x1.1; omega)) | ((have hq := at_all (i := x1.2) hp2 (by omega); simp only [List.length_append, List.length_cons, List.length_nil]; omega)), by first | omega | assumption | (simp only [List.length_append, List.length_cons, List.length_nil, List.length_replicate, put_len] at * <;> omega) | ((have hq := at_all (i := x1.2) hp2 (by omega); first | omega | (dsimp only at *; omega))) | ((have hq := sortS_len x1.1; omega)) | ((have hq := at_all (i := x1.2) hp2 (by omega); simp only [List.length_append, List.length_cons, List.length_nil]; omega)), by first | omega | assumption | (simp only [List.length_append, List.length_cons, List.length_nil, List.length_replicate, put_len] at * <;> omega) | ((have hq := at_all (i := x1.2) hp2 (by omega); first | omega | (dsimp only at *; omega))) | ((have hq := sortS_len x1.1; omega)) | ((have hq := at_all (i := x1.2) hp2 (by omega); simp only [List.length_append, List.length_cons, List.length_nil]; omega)), by first | omega | assumption | (simp only [List.length_append, List.length_cons, List.length_nil, List.length_replicate, put_len] at * <;> omega) | ((have hq := at_all (i := x1.2) hp2 (by omega); first | omega | (dsimp only at *; omega))) | ((have hq := sortS_len x1.1; omega)) | ((have hq := at_all (i := x1.2) hp2 (by omega); simp only [List.length_append, List.length_cons, List.length_nil]; omega))⟩ (sub_of [] ⟨rfl, trivial⟩ ⟨rfl, trivial⟩ rfl)

/-! ### slices_IndexFunc_string -/
theorem c_slices_IndexFunc_string (s_ : List (List UInt8)) (f : List UInt8 → Bool) (F_f : FuncId) (C_f : List V) (he_f : entB Try.prog F_f = true) (hr_f : C_f.all V.ro = true) (hc_f : ∀ (a0 : List UInt8), Con Try.prog F_f ([.str a0] ++ C_f) [] (.bool (f a0)) []) : Con Try.prog 87 [.sl 1 (s_.map V.str), .clo F_f C_f] [] (.int .i64 (m_slices_IndexFunc_string s_ f)) ([]) := by
  refine con_intro (out := fun r : Int => ((.int .i64 r : V), ([] : List (Nat × Option O)))) (r := (m_slices_IndexFunc_string s_ f)) Try.func87 rfl Try.ntmps87 rfl ?_
  refine run_fact (t := 0) rfl fun hl => ?_
  have l1 := hl; clear hl; simp only [List.length_map] at l1
  refine run_seq ?_
  refine run_region (q_assign .n (.c rfl) rfl <|
      Lex.nil) ?_
  refine run_seq ?_
  refine run_seq ?_
  refine run_region (q_move .n (.t rfl) rfl <|
      q_len .n (.t rfl) rfl len_map ss_30 rfl <|
      q_move .n (.c rfl) rfl <|
      Lex.nil) ?_
  refine run_block ?_
  refine run_LOOP (m_slices_IndexFunc_string_b1 s_ f) _ _ _ rfl (fun (x1 : Int) => 0 ≤ x1 ∧ x1 ≤ (s_.length : Int)) (fun x1 => 0 ≤ x1 ∧ x1 ≤ (s_.length : Int) ∧ (s_.length : Int) ≤ x1) (fun x1 => ((s_.length : Int) - x1 : Int).toNat) (fun x1 => ⟨[(0, some (true, .sl 1 (s_.map V.str))), (1, some (true, .clo F_f C_f)), (7, some (true, .int .i64 (s_.length : Int))), (8, some (true, .int .i64 x1))], []⟩) (fun x1 => ⟨[], []⟩) ⟨by first | omega | assumption | (simp only [List.length_append, List.length_cons, List.length_nil, List.length_replicate, put_len] at * <;> omega), by first | omega | assumption | (simp only [List.length_append, List.length_cons, List.length_nil, List.length_replicate, put_len] at * <;> omega)⟩ (by first | omega | assumption | (simp only [List.length_append, List.length_cons, List.length_nil, List.length_replicate, put_len] at * <;> omega)) (sub_of [] ⟨rfl, clo_ren hr_f rfl, rfl, rfl, trivial⟩ trivial rfl) ?_ ?_
  · intro x1 i6
    obtain ⟨e7, e8, e9⟩ := i6
    try dsimp only at *
    refine run_seq ?_
    refine run_region (q_assign .n (.c rfl) rfl <|
        Lex.nil) ?_
    exact run_ret [] (.cons (.t rfl rfl) .nil) rfl trivial rfl
  · intro rec1 k1 hk2 x1 i3
    obtain ⟨e10, e11⟩ := i3
    try dsimp only at *
    refine run_seq ?_
    refine run_region (q_int .n (.t rfl) (.t rfl) rfl rfl <|
        Lex.nil) ?_
    refine run_seq ?_
    refine run_cond (.t rfl) rfl (fun h4 => ?_) (fun h4 => ?_)
    · try simp only [Bool.and_eq_true, Bool.or_eq_true, Bool.not_eq_true', Bool.and_eq_false_iff, Bool.or_eq_false_iff, Bool.not_eq_false', decide_eq_true_eq, decide_eq_false_iff_not, beq_iff_eq, bne_iff_ne, beq_eq_false_iff_ne, bne_eq_false_iff_eq, Bool.true_and, ne_eq, Decidable.not_not, Int.not_lt, Int.not_le, Nat.not_lt, Nat.not_le, strB_nil, strB_nil', strB_nnil, strB_nnil'] at h4
      refine run_skip ?_
      refine run_seq ?_
      refine run_block ?_
      refine run_seq ?_
      refine run_region (q_move .n (.t rfl) rfl <|
          q_assign .n (.t rfl) rfl <|
          Lex.nil) ?_
      refine run_seq ?_
      refine run_region (q_move .n (.t rfl) rfl <|
          q_move .n (.t rfl) rfl <|
          q_move .n (.t rfl) rfl <|
          q_idx_rm .n (.t rfl) (.t rfl) sl_30 (fun _ => by first | omega | assumption | (simp only [List.length_append, List.length_cons, List.length_nil, List.length_replicate, put_len] at * <;> omega)) rfl <|
          q_ld1_ro .n (.t rfl) rfl ic_9 rfl <|
          q_call0 (full := false) .n (.c (.t rfl)) he_f (.cons (.t rfl) .nil) (passes_app hr_f (.cons (.b (.a (.same rfl))) .nil)) (fun hg => hc_f (at' s_ x1)) rfl (fun h => Bool.noConfusion h) rfl <|
          Lex.nil) ?_
      refine run_cond (.t rfl) rfl (fun h5 => ?_) (fun h5 => ?_)
      · try simp only [Bool.and_eq_true, Bool.or_eq_true, Bool.not_eq_true', Bool.and_eq_false_iff, Bool.or_eq_false_iff, Bool.not_eq_false', decide_eq_true_eq, decide_eq_false_iff_not, beq_iff_eq, bne_iff_ne, beq_eq_false_iff_ne, bne_eq_false_iff_eq, Bool.true_and, ne_eq, Decidable.not_not, Int.not_lt, Int.not_le, Nat.not_lt, Nat.not_le, strB_nil, strB_nil', strB_nnil, strB_nnil'] at h5
        refine run_seq ?_
        refine run_region (q_move .n (.t rfl) rfl <|
            q_assign .n (.t rfl) rfl <|
            Lex.nil) ?_
        exact run_ret [] (.cons (.t rfl rfl) .nil) rfl trivial rfl
      · try simp only [Bool.and_eq_true, Bool.or_eq_true, Bool.not_eq_true', Bool.and_eq_false_iff, Bool.or_eq_false_iff, Bool.not_eq_false', decide_eq_true_eq, decide_eq_false_iff_not, beq_iff_eq, bne_iff_ne, beq_eq_false_iff_ne, bne_eq_false_iff_eq, Bool.true_and, ne_eq, Decidable.not_not, Int.not_lt, Int.not_le, Nat.not_lt, Nat.not_le, strB_nil, strB_nil', strB_nnil, strB_nnil'] at h5
        refine run_skip ?_
        refine run_endB ?_
        refine run_region (q_add .n (.t rfl) (.c rfl) (fun _ => by first | omega | assumption | (simp only [List.length_append, List.length_cons, List.length_nil, List.length_replicate, put_len] at * <;> omega)) rfl <|
            q_move .n (.t rfl) rfl <|
            Lex.nil) ?_
        exact run_again (x1 + 1) ⟨by first | omega | assumption | (simp only [List.length_append, List.length_cons, List.length_nil, List.length_replicate, put_len] at * <;> omega), by first | omega | assumption | (simp only [List.length_append, List.length_cons, List.length_nil, List.length_replicate, put_len] at * <;> omega)⟩ (by first | omega | assumption | (simp only [List.length_append, List.length_cons, List.length_nil, List.length_replicate, put_len] at * <;> omega)) (sub_of [] ⟨rfl, clo_ren hr_f rfl, rfl, rfl, trivial⟩ trivial rfl)
    · try simp only [Bool.and_eq_true, Bool.or_eq_true, Bool.not_eq_true', Bool.and_eq_false_iff, Bool.or_eq_false_iff, Bool.not_eq_false', decide_eq_true_eq, decide_eq_false_iff_not, beq_iff_eq, bne_iff_ne, beq_eq_false_iff_ne, bne_eq_false_iff_eq, Bool.true_and, ne_eq, Decidable.not_not, Int.not_lt, Int.not_le, Nat.not_lt, Nat.not_le, strB_nil, strB_nil', strB_nnil, strB_nnil'] at h4
      refine run_exit rfl ?_
      exact run_cont hk2 x1 ⟨by first | omega | assumption | (simp only [List.length_append, List.length_cons, List.length_nil, List.length_replicate, put_len] at * <;> omega), by first | omega | assumption | (simp only [List.length_append, List.length_cons, List.length_nil, List.length_replicate, put_len] at * <;> omega), by first | omega | assumption | (simp only [List.length_append, List.length_cons, List.length_nil, List.length_replicate, put_len] at * <;> omega)⟩ (sub_of [] trivial trivial rfl)

/-! ### slices_DeleteFunc_string -/
set_option maxRecDepth 100000 in
set_option maxHeartbeats 4000000 in
theorem c_slices_DeleteFunc_string (s_ : List (List UInt8)) (del : List UInt8 → Bool) (F_del : FuncId) (C_del : List V) (he_del : entB Try.prog F_del = true) (hr_del : C_del.all V.ro = true) (hc_del : ∀ (a0 : List UInt8), Con Try.prog F_del ([.str a0] ++ C_del) [] (.bool (del a0)) []) (hp1 : s_.length ≤ 1000000) : Con Try.prog 69 [.os 0 s_.length, .clo F_del C_del] [(0, some (.row 9 1 (s_.map V.str)))] (.os 0 (m_slices_DeleteFunc_string s_ del).1.length) ([(0, some (.row 9 1 ((m_slices_DeleteFunc_string s_ del).1.map V.str)))]) := by
  refine con_intro (out := fun r : (List (List UInt8)) × (List (List UInt8)) => ((.os 0 r.1.length : V), ([(0, some (.row 9 1 (r.1.map V.str)))] : List (Nat × Option O)))) (r := (m_slices_DeleteFunc_string s_ del)) Try.func69 rfl Try.ntmps69 rfl ?_
  refine run_factH (l := 0) rfl fun hl => ?_
  have l1 := hl; clear hl; simp only [List.length_map] at l1
  refine run_seq ?_
  refine run_region (q_assign .n (.c rfl) rfl <|
      Lex.nil) ?_
  refine run_seq ?_
  refine run_region (q_move .n (.t rfl) rfl <|
      q_move .n (.t rfl) rfl <|
      q_call0 (full := true) .n .f en_87 (.cons (.t rfl) (.cons (.t rfl) .nil)) (.cons (.b (.a (.own rfl rfl rfl (take_all (by simp only [len_map, put_len] <;> rfl)) (by simp only [len_map, put_len] <;> rfl)))) (.cons (.clo (passBs_ro hr_del)) .nil)) (fun hg => c_slices_IndexFunc_string s_ del F_del C_del he_del hr_del hc_del) rfl (fun _ => rfl) rfl <|
      q_assign .n (.t rfl) rfl <|
      Lex.nil) ?_
  refine run_seq ?_
  refine run_seq ?_
  refine run_region (q_move .n (.t rfl) rfl <|
      q_int .n (.t rfl) (.c rfl) rfl rfl <|
      Lex.nil) ?_
  refine run_cond (.t rfl) rfl (fun h2 => ?_) (fun h2 => ?_)
  · try simp only [Bool.and_eq_true, Bool.or_eq_true, Bool.not_eq_true', Bool.and_eq_false_iff, Bool.or_eq_false_iff, Bool.not_eq_false', decide_eq_true_eq, decide_eq_false_iff_not, beq_iff_eq, bne_iff_ne, beq_eq_false_iff_ne, bne_eq_false_iff_eq, Bool.true_and, ne_eq, Decidable.not_not, Int.not_lt, Int.not_le, Nat.not_lt, Nat.not_le, strB_nil, strB_nil', strB_nnil, strB_nnil'] at h2
    refine run_seq ?_
    refine run_region (q_move .n (.t rfl) rfl <|
        q_assign .n (.t rfl) rfl <|
        Lex.nil) ?_
    exact run_ret [] (.cons (.t rfl rfl) .nil) (by first | rfl | (simp only [put_len, pre_len2, cpy_tail_len]; rfl)) ⟨rfl, trivial⟩ rfl
  · try simp only [Bool.and_eq_true, Bool.or_eq_true, Bool.not_eq_true', Bool.and_eq_false_iff, Bool.or_eq_false_iff, Bool.not_eq_false', decide_eq_true_eq, decide_eq_false_iff_not, beq_iff_eq, bne_iff_ne, beq_eq_false_iff_ne, bne_eq_false_iff_eq, Bool.true_and, ne_eq, Decidable.not_not, Int.not_lt, Int.not_le, Nat.not_lt, Nat.not_le, strB_nil, strB_nil', strB_nnil, strB_nnil'] at h2
    refine run_skip ?_
    refine run_seq ?_
    refine run_seq ?_
    refine run_region (q_move .n (.t rfl) rfl <|
        q_int .n (.t rfl) (.c rfl) rfl rfl <|
        q_assign .n (.t rfl) rfl <|
        Lex.nil) ?_
    refine run_block ?_
    refine run_LOOP (m_slices_DeleteFunc_string_b1 s_ del) _ _ _ rfl (fun (x1 : (List (List UInt8)) × Int × Int) => IntKind.wrap .i64 ((m_slices_IndexFunc_string s_ del) + 1) ≤ x1.2.2 ∧ x1.1.length = s_.length ∧ 0 ≤ x1.2.1 ∧ x1.2.1 < x1.2.2 ∧ x1.2.2 ≤ s_.length ∧ x1.1.length = s_.length) (fun x1 => IntKind.wrap .i64 ((m_slices_IndexFunc_string s_ del) + 1) ≤ x1.2.2 ∧ x1.1.length = s_.length ∧ 0 ≤ x1.2.1 ∧ x1.2.1 < x1.2.2 ∧ x1.2.2 ≤ s_.length ∧ x1.1.length = s_.length) (fun x1 => ((s_.length : Int) - x1.2.2 : Int).toNat) (fun x1 => ⟨[(0, some (true, .os 0 x1.1.length)), (1, some (true, .clo F_del C_del)), (5, some (true, .int .i64 x1.2.1)), (6, some (true, .int .i64 x1.2.2))], [(0, some (.row 9 1 (x1.1.map V.str)))]⟩) (fun x1 => ⟨[(0, some (true, .os 0 x1.1.length)), (5, some (true, .int .i64 x1.2.1))], [(0, some (.row 9 1 (x1.1.map V.str)))]⟩) ⟨by first | omega | assumption | (simp only [List.length_append, List.length_cons, List.length_nil, List.length_replicate, put_len] at * <;> omega) | ((have hq := idx_rng s_ del; have hw := wr64 (n := m_slices_IndexFunc_string s_ del + 1) (by omega); first | omega | (rw [hw]; omega) | (dsimp only; omega) | (dsimp only; rw [hw]; omega) | (refine ⟨?_, ?_, ?_⟩ <;> dsimp only <;> first | omega | (rw [hw]; omega)))) | ((have hw2 := wr64 (n := x1.2.1 + 1) (by omega); have hl2 := put_len (xs := x1.1) (i := x1.2.1) (x := at' x1.1 x1.2.2); dsimp only; first | omega | (rw [hw2]; omega) | (refine ⟨?_, ?_, ?_⟩ <;> first | omega | (rw [hw2]; omega)) | (refine ⟨?_, ?_⟩ <;> first | omega | (rw [hw2]; omega)))) | ((have hc := cpy_tail_len (xs := x1.1) (o := x1.2.1.toNat) (z := ([] : List UInt8)); omega)), by first | omega | assumption | (simp only [List.length_append, List.length_cons, List.length_nil, List.length_replicate, put_len] at * <;> omega) | ((have hq := idx_rng s_ del; have hw := wr64 (n := m_slices_IndexFunc_string s_ del + 1) (by omega); first | omega | (rw [hw]; omega) | (dsimp only; omega) | (dsimp only; rw [hw]; omega) | (refine ⟨?_, ?_, ?_⟩ <;> dsimp only <;> first | omega | (rw [hw]; omega)))) | ((have hw2 := wr64 (n := x1.2.1 + 1) (by omega); have hl2 := put_len (xs := x1.1) (i := x1.2.1) (x := at' x1.1 x1.2.2); dsimp only; first | omega | (rw [hw2]; omega) | (refine ⟨?_, ?_, ?_⟩ <;> first | omega | (rw [hw2]; omega)) | (refine ⟨?_, ?_⟩ <;> first | omega | (rw [hw2]; omega)))) | ((have hc := cpy_tail_len (xs := x1.1) (o := x1.2.1.toNat) (z := ([] : List UInt8)); omega)), by first | omega | assumption | (simp only [List.length_append, List.length_cons, List.length_nil, List.length_replicate, put_len] at * <;> omega) | ((have hq := idx_rng s_ del; have hw := wr64 (n := m_slices_IndexFunc_string s_ del + 1) (by omega); first | omega | (rw [hw]; omega) | (dsimp only; omega) | (dsimp only; rw [hw]; omega) | (refine ⟨?_, ?_, ?_⟩ <;> dsimp only <;> first | omega | (rw [hw]; omega)))) | ((have hw2 := wr64 (n := x1.2.1 + 1) (by omega); have hl2 := put_len (xs := x1.1) (i := x1.2.1) (x := at' x1.1 x1.2.2); dsimp only; first | omega | (rw [hw2]; omega) | (refine ⟨?_, ?_, ?_⟩ <;> first | omega | (rw [hw2]; omega)) | (refine ⟨?_, ?_⟩ <;> first | omega | (rw [hw2]; omega)))) | ((have hc := cpy_tail_len (xs := x1.1) (o := x1.2.1.toNat) (z := ([] : List UInt8)); omega)), by first | omega | assumption | (simp only [List.length_append, List.length_cons, List.length_nil, List.length_replicate, put_len] at * <;> omega) | ((have hq := idx_rng s_ del; have hw := wr64 (n := m_slices_IndexFunc_string s_ del + 1) (by omega); first | omega | (rw [hw]; omega) | (dsimp only; omega) | (dsimp only; rw [hw]; omega) | (refine ⟨?_, ?_, ?_⟩ <;> dsimp only <;> first | omega | (rw [hw]; omega)))) | ((have hw2 := wr64 (n := x1.2.1 + 1) (by omega); have hl2 := put_len (xs := x1.1) (i := x1.2.1) (x := at' x1.1 x1.2.2); dsimp only; first | omega | (rw [hw2]; omega) | (refine ⟨?_, ?_, ?_⟩ <;> first | omega | (rw [hw2]; omega)) | (refine ⟨?_, ?_⟩ <;> first | omega | (rw [hw2]; omega)))) | ((have hc := cpy_tail_len (xs := x1.1) (o := x1.2.1.toNat) (z := ([] : List UInt8)); omega))⟩ (by first | omega | assumption | (simp only [List.length_append, List.length_cons, List.length_nil, List.length_replicate, put_len] at * <;> omega) | ((have hq := idx_rng s_ del; have hw := wr64 (n := m_slices_IndexFunc_string s_ del + 1) (by omega); first | omega | (rw [hw]; omega) | (dsimp only; omega) | (dsimp only; rw [hw]; omega) | (refine ⟨?_, ?_, ?_⟩ <;> dsimp only <;> first | omega | (rw [hw]; omega)))) | ((have hw2 := wr64 (n := x1.2.1 + 1) (by omega); have hl2 := put_len (xs := x1.1) (i := x1.2.1) (x := at' x1.1 x1.2.2); dsimp only; first | omega | (rw [hw2]; omega) | (refine ⟨?_, ?_, ?_⟩ <;> first | omega | (rw [hw2]; omega)) | (refine ⟨?_, ?_⟩ <;> first | omega | (rw [hw2]; omega)))) | ((have hc := cpy_tail_len (xs := x1.1) (o := x1.2.1.toNat) (z := ([] : List UInt8)); omega))) (sub_of [] ⟨rfl, clo_ren hr_del rfl, rfl, rfl, trivial⟩ ⟨rfl, trivial⟩ rfl) ?_ ?_
    · intro x1 i7
      obtain ⟨e8, e9, e10, e11⟩ := i7
      try dsimp only at *
      refine run_seq ?_
      refine run_region (q_move .n (.t rfl) rfl <|
          q_move .n (.t rfl) rfl <|
          q_cut_oss (x1.1.length : Int) .n (.t rfl) (.s (.t rfl)) .n sl_30 rfl (fun _ => by first | omega | assumption | (simp only [List.length_append, List.length_cons, List.length_nil, List.length_replicate, put_len] at * <;> omega) | ((have hq := idx_rng s_ del; have hw := wr64 (n := m_slices_IndexFunc_string s_ del + 1) (by omega); first | omega | (rw [hw]; omega) | (dsimp only; omega) | (dsimp only; rw [hw]; omega) | (refine ⟨?_, ?_, ?_⟩ <;> dsimp only <;> first | omega | (rw [hw]; omega)))) | ((have hw2 := wr64 (n := x1.2.1 + 1) (by omega); have hl2 := put_len (xs := x1.1) (i := x1.2.1) (x := at' x1.1 x1.2.2); dsimp only; first | omega | (rw [hw2]; omega) | (refine ⟨?_, ?_, ?_⟩ <;> first | omega | (rw [hw2]; omega)) | (refine ⟨?_, ?_⟩ <;> first | omega | (rw [hw2]; omega)))) | ((have hc := cpy_tail_len (xs := x1.1) (o := x1.2.1.toNat) (z := ([] : List UInt8)); omega))) rfl <|
          q_clearm (f := V.str) (off := x1.2.1.toNat) (m := ((x1.1.length : Int).toNat - x1.2.1.toNat)) (([] : List UInt8) : List UInt8) .n rfl (.t rfl) rfl (by first | omega | assumption | (simp only [List.length_append, List.length_cons, List.length_nil, List.length_replicate, put_len] at * <;> omega) | ((have hq := idx_rng s_ del; have hw := wr64 (n := m_slices_IndexFunc_string s_ del + 1) (by omega); first | omega | (rw [hw]; omega) | (dsimp only; omega) | (dsimp only; rw [hw]; omega) | (refine ⟨?_, ?_, ?_⟩ <;> dsimp only <;> first | omega | (rw [hw]; omega)))) | ((have hw2 := wr64 (n := x1.2.1 + 1) (by omega); have hl2 := put_len (xs := x1.1) (i := x1.2.1) (x := at' x1.1 x1.2.2); dsimp only; first | omega | (rw [hw2]; omega) | (refine ⟨?_, ?_, ?_⟩ <;> first | omega | (rw [hw2]; omega)) | (refine ⟨?_, ?_⟩ <;> first | omega | (rw [hw2]; omega)))) | ((have hc := cpy_tail_len (xs := x1.1) (o := x1.2.1.toNat) (z := ([] : List UInt8)); omega))) sl_30 zv_9 rfl <|
          Lex.nil) ?_
      refine run_seq ?_
      refine run_region (q_move .n (.t rfl) rfl <|
          q_move .n (.t rfl) rfl <|
          q_cut_owm (xs := (cpy x1.1 (x1.2.1.toNat) (List.replicate ((x1.1.length : Int).toNat - x1.2.1.toNat) (([] : List UInt8) : List UInt8)))) (b := x1.2.1) .n (.t rfl) (.s (.t rfl)) sl_30 (fun _ => by first | omega | assumption | (simp only [List.length_append, List.length_cons, List.length_nil, List.length_replicate, put_len] at * <;> omega) | ((have hq := idx_rng s_ del; have hw := wr64 (n := m_slices_IndexFunc_string s_ del + 1) (by omega); first | omega | (rw [hw]; omega) | (dsimp only; omega) | (dsimp only; rw [hw]; omega) | (refine ⟨?_, ?_, ?_⟩ <;> dsimp only <;> first | omega | (rw [hw]; omega)))) | ((have hw2 := wr64 (n := x1.2.1 + 1) (by omega); have hl2 := put_len (xs := x1.1) (i := x1.2.1) (x := at' x1.1 x1.2.2); dsimp only; first | omega | (rw [hw2]; omega) | (refine ⟨?_, ?_, ?_⟩ <;> first | omega | (rw [hw2]; omega)) | (refine ⟨?_, ?_⟩ <;> first | omega | (rw [hw2]; omega)))) | ((have hc := cpy_tail_len (xs := x1.1) (o := x1.2.1.toNat) (z := ([] : List UInt8)); omega))) rfl <|
          q_assign .n (.t rfl) rfl <|
          Lex.nil) ?_
      refine run_shrink (f := V.str) (xs := cpy x1.1 (x1.2.1.toNat) (List.replicate ((x1.1.length : Int).toNat - x1.2.1.toNat) (([] : List UInt8) : List UInt8))) (l := 0) x1.2.1 rfl ?_
      exact run_ret [] (.cons (.t rfl rfl) .nil) (by first | rfl | (simp only [put_len, pre_len2, cpy_tail_len]; rfl)) ⟨rfl, trivial⟩ rfl
    · intro rec1 k1 hk3 x1 i4
      obtain ⟨e12, e13, e14, e15⟩ := i4
      try dsimp only at *
      refine run_seq ?_
      refine run_seq ?_
      refine run_region (q_move .n (.t rfl) rfl <|
          q_move .n (.t rfl) rfl <|
          q_len .n (.t rfl) rfl rfl ss_30 rfl <|
          q_int .n (.t rfl) (.t rfl) rfl rfl <|
          Lex.nil) ?_
      refine run_cond (.t rfl) rfl (fun h5 => ?_) (fun h5 => ?_)
      · try simp only [Bool.and_eq_true, Bool.or_eq_true, Bool.not_eq_true', Bool.and_eq_false_iff, Bool.or_eq_false_iff, Bool.not_eq_false', decide_eq_true_eq, decide_eq_false_iff_not, beq_iff_eq, bne_iff_ne, beq_eq_false_iff_ne, bne_eq_false_iff_eq, Bool.true_and, ne_eq, Decidable.not_not, Int.not_lt, Int.not_le, Nat.not_lt, Nat.not_le, strB_nil, strB_nil', strB_nnil, strB_nnil'] at h5
        refine run_skip ?_
        refine run_seq ?_
        refine run_block ?_
        refine run_seq ?_
        refine run_region (q_move .n (.t rfl) rfl <|
            q_move .n (.t rfl) rfl <|
            q_idx_ow .n (.t rfl) (.t rfl) sl_30 (fun _ => by first | omega | assumption | (simp only [List.length_append, List.length_cons, List.length_nil, List.length_replicate, put_len] at * <;> omega) | ((have hq := idx_rng s_ del; have hw := wr64 (n := m_slices_IndexFunc_string s_ del + 1) (by omega); first | omega | (rw [hw]; omega) | (dsimp only; omega) | (dsimp only; rw [hw]; omega) | (refine ⟨?_, ?_, ?_⟩ <;> dsimp only <;> first | omega | (rw [hw]; omega)))) | ((have hw2 := wr64 (n := x1.2.1 + 1) (by omega); have hl2 := put_len (xs := x1.1) (i := x1.2.1) (x := at' x1.1 x1.2.2); dsimp only; first | omega | (rw [hw2]; omega) | (refine ⟨?_, ?_, ?_⟩ <;> first | omega | (rw [hw2]; omega)) | (refine ⟨?_, ?_⟩ <;> first | omega | (rw [hw2]; omega)))) | ((have hc := cpy_tail_len (xs := x1.1) (o := x1.2.1.toNat) (z := ([] : List UInt8)); omega))) rfl <|
            q_ld1_row .n (.t rfl) rfl (fun _ => by first | omega | assumption | (simp only [List.length_append, List.length_cons, List.length_nil, List.length_replicate, put_len] at * <;> omega) | ((have hq := idx_rng s_ del; have hw := wr64 (n := m_slices_IndexFunc_string s_ del + 1) (by omega); first | omega | (rw [hw]; omega) | (dsimp only; omega) | (dsimp only; rw [hw]; omega) | (refine ⟨?_, ?_, ?_⟩ <;> dsimp only <;> first | omega | (rw [hw]; omega)))) | ((have hw2 := wr64 (n := x1.2.1 + 1) (by omega); have hl2 := put_len (xs := x1.1) (i := x1.2.1) (x := at' x1.1 x1.2.2); dsimp only; first | omega | (rw [hw2]; omega) | (refine ⟨?_, ?_, ?_⟩ <;> first | omega | (rw [hw2]; omega)) | (refine ⟨?_, ?_⟩ <;> first | omega | (rw [hw2]; omega)))) | ((have hc := cpy_tail_len (xs := x1.1) (o := x1.2.1.toNat) (z := ([] : List UInt8)); omega))) rfl rfl rfl ic_9 rfl <|
            q_assign .n (.t rfl) rfl <|
            Lex.nil) ?_
        refine run_seq ?_
        refine run_region (q_move .n (.t rfl) rfl <|
            q_move .n (.t rfl) rfl <|
            q_call0 (full := false) .n (.c (.t rfl)) he_del (.cons (.t rfl) .nil) (passes_app hr_del (.cons (.b (.a (.same rfl))) .nil)) (fun hg => hc_del (at' x1.1 x1.2.2)) rfl (fun h => Bool.noConfusion h) rfl <|
            q_not .n (.t rfl) rfl <|
            Lex.nil) ?_
        refine run_cond (.t rfl) rfl (fun h6 => ?_) (fun h6 => ?_)
        · try simp only [Bool.and_eq_true, Bool.or_eq_true, Bool.not_eq_true', Bool.and_eq_false_iff, Bool.or_eq_false_iff, Bool.not_eq_false', decide_eq_true_eq, decide_eq_false_iff_not, beq_iff_eq, bne_iff_ne, beq_eq_false_iff_ne, bne_eq_false_iff_eq, Bool.true_and, ne_eq, Decidable.not_not, Int.not_lt, Int.not_le, Nat.not_lt, Nat.not_le, strB_nil, strB_nil', strB_nnil, strB_nnil'] at h6
          refine run_seq ?_
          refine run_region (q_move .n (.t rfl) rfl <|
              q_move .n (.t rfl) rfl <|
              q_move .n (.t rfl) rfl <|
              q_idx_ow .n (.t rfl) (.t rfl) sl_30 (fun _ => by first | omega | assumption | (simp only [List.length_append, List.length_cons, List.length_nil, List.length_replicate, put_len] at * <;> omega) | ((have hq := idx_rng s_ del; have hw := wr64 (n := m_slices_IndexFunc_string s_ del + 1) (by omega); first | omega | (rw [hw]; omega) | (dsimp only; omega) | (dsimp only; rw [hw]; omega) | (refine ⟨?_, ?_, ?_⟩ <;> dsimp only <;> first | omega | (rw [hw]; omega)))) | ((have hw2 := wr64 (n := x1.2.1 + 1) (by omega); have hl2 := put_len (xs := x1.1) (i := x1.2.1) (x := at' x1.1 x1.2.2); dsimp only; first | omega | (rw [hw2]; omega) | (refine ⟨?_, ?_, ?_⟩ <;> first | omega | (rw [hw2]; omega)) | (refine ⟨?_, ?_⟩ <;> first | omega | (rw [hw2]; omega)))) | ((have hc := cpy_tail_len (xs := x1.1) (o := x1.2.1.toNat) (z := ([] : List UInt8)); omega))) rfl <|
              q_st_rowm (at' x1.1 x1.2.2) .n rfl (.t rfl) (.t rfl) rfl ts_9 (by first | omega | assumption | (simp only [List.length_append, List.length_cons, List.length_nil, List.length_replicate, put_len] at * <;> omega) | ((have hq := idx_rng s_ del; have hw := wr64 (n := m_slices_IndexFunc_string s_ del + 1) (by omega); first | omega | (rw [hw]; omega) | (dsimp only; omega) | (dsimp only; rw [hw]; omega) | (refine ⟨?_, ?_, ?_⟩ <;> dsimp only <;> first | omega | (rw [hw]; omega)))) | ((have hw2 := wr64 (n := x1.2.1 + 1) (by omega); have hl2 := put_len (xs := x1.1) (i := x1.2.1) (x := at' x1.1 x1.2.2); dsimp only; first | omega | (rw [hw2]; omega) | (refine ⟨?_, ?_, ?_⟩ <;> first | omega | (rw [hw2]; omega)) | (refine ⟨?_, ?_⟩ <;> first | omega | (rw [hw2]; omega)))) | ((have hc := cpy_tail_len (xs := x1.1) (o := x1.2.1.toNat) (z := ([] : List UInt8)); omega))) rfl rfl <|
              Lex.nil) ?_
          refine run_region (q_move .n (.t rfl) rfl <|
              q_int .n (.t rfl) (.c rfl) rfl rfl <|
              q_assign .n (.t rfl) rfl <|
              Lex.nil) ?_
          refine run_endB ?_
          refine run_region (q_move .n (.t rfl) rfl <|
              q_add .n (.t rfl) (.c rfl) (fun _ => by first | omega | assumption | (simp only [List.length_append, List.length_cons, List.length_nil, List.length_replicate, put_len] at * <;> omega) | ((have hq := idx_rng s_ del; have hw := wr64 (n := m_slices_IndexFunc_string s_ del + 1) (by omega); first | omega | (rw [hw]; omega) | (dsimp only; omega) | (dsimp only; rw [hw]; omega) | (refine ⟨?_, ?_, ?_⟩ <;> dsimp only <;> first | omega | (rw [hw]; omega)))) | ((have hw2 := wr64 (n := x1.2.1 + 1) (by omega); have hl2 := put_len (xs := x1.1) (i := x1.2.1) (x := at' x1.1 x1.2.2); dsimp only; first | omega | (rw [hw2]; omega) | (refine ⟨?_, ?_, ?_⟩ <;> first | omega | (rw [hw2]; omega)) | (refine ⟨?_, ?_⟩ <;> first | omega | (rw [hw2]; omega)))) | ((have hc := cpy_tail_len (xs := x1.1) (o := x1.2.1.toNat) (z := ([] : List UInt8)); omega))) rfl <|
              q_assign .n (.t rfl) rfl <|
              Lex.nil) ?_
          exact run_again (put' x1.1 x1.2.1 (at' x1.1 x1.2.2), IntKind.wrap .i64 (x1.2.1 + 1), x1.2.2 + 1) ⟨by first | omega | assumption | (simp only [List.length_append, List.length_cons, List.length_nil, List.length_replicate, put_len] at * <;> omega) | ((have hq := idx_rng s_ del; have hw := wr64 (n := m_slices_IndexFunc_string s_ del + 1) (by omega); first | omega | (rw [hw]; omega) | (dsimp only; omega) | (dsimp only; rw [hw]; omega) | (refine ⟨?_, ?_, ?_⟩ <;> dsimp only <;> first | omega | (rw [hw]; omega)))) | ((have hw2 := wr64 (n := x1.2.1 + 1) (by omega); have hl2 := put_len (xs := x1.1) (i := x1.2.1) (x := at' x1.1 x1.2.2); dsimp only; first | omega | (rw [hw2]; omega) | (refine ⟨?_, ?_, ?_⟩ <;> first | omega | (rw [hw2]; omega)) | (refine ⟨?_, ?_⟩ <;> first | omega | (rw [hw2]; omega)))) | ((have hc := cpy_tail_len (xs := x1.1) (o := x1.2.1.toNat) (z := ([] : List UInt8)); omega)), by first | omega | assumption | (simp only [List.length_append, List.length_cons, List.length_nil, List.length_replicate, put_len] at * <;> omega) | ((have hq := idx_rng s_ del; have hw := wr64 (n := m_slices_IndexFunc_string s_ del + 1) (by omega); first | omega | (rw [hw]; omega) | (dsimp only; omega) | (dsimp only; rw [hw]; omega) | (refine ⟨?_, ?_, ?_⟩ <;> dsimp only <;> first | omega | (rw [hw]; omega)))) | ((have hw2 := wr64 (n := x1.2.1 + 1) (by omega); have hl2 := put_len (xs := x1.1) (i := x1.2.1) (x := at' x1.1 x1.2.2); dsimp only; first | omega | (rw [hw2]; omega) | (refine ⟨?_, ?_, ?_⟩ <;> first | omega | (rw [hw2]; omega)) | (refine ⟨?_, ?_⟩ <;> first | omega | (rw [hw2]; omega)))) | ((have hc := cpy_tail_len (xs := x1.1) (o := x1.2.1.toNat) (z := ([] : List UInt8)); omega)), by first | omega | assumption | (simp only [List.length_append, List.length_cons, List.length_nil, List.length_replicate, put_len] at * <;> omega) | ((have hq := idx_rng s_ del; have hw := wr64 (n := m_slices_IndexFunc_string s_ del + 1) (by omega); first | omega | (rw [hw]; omega) | (dsimp only; omega) | (dsimp only; rw [hw]; omega) | (refine ⟨?_, ?_, ?_⟩ <;> dsimp only <;> first | omega | (rw [hw]; omega)))) | ((have hw2 := wr64 (n := x1.2.1 + 1) (by omega); have hl2 := put_len (xs := x1.1) (i := x1.2.1) (x := at' x1.1 x1.2.2); dsimp only; first | omega | (rw [hw2]; omega) | (refine ⟨?_, ?_, ?_⟩ <;> first | omega | (rw [hw2]; omega)) | (refine ⟨?_, ?_⟩ <;> first | omega | (rw [hw2]; omega)))) | ((have hc := cpy_tail_len (xs := x1.1) (o := x1.2.1.toNat) (z := ([] : List UInt8)); omega)), by first | omega | assumption | (simp only [List.length_append, List.length_cons, List.length_nil, List.length_replicate, put_len] at * <;> omega) | ((have hq := idx_rng s_ del; have hw := wr64 (n := m_slices_IndexFunc_string s_ del + 1) (by omega); first | omega | (rw [hw]; omega) | (dsimp only; omega) | (dsimp only; rw [hw]; omega) | (refine ⟨?_, ?_, ?_⟩ <;> dsimp only <;> first | omega | (rw [hw]; omega)))) | ((have hw2 := wr64 (n := x1.2.1 + 1) (by omega); have hl2 := put_len (xs := x1.1) (i := x1.2.1) (x := at' x1.1 x1.2.2); dsimp only; first | omega | (rw [hw2]; omega) | (refine ⟨?_, ?_, ?_⟩ <;> first | omega | (rw [hw2]; omega)) | (refine ⟨?_, ?_⟩ <;> first | omega | (rw [hw2]; omega)))) | ((have hc := cpy_tail_len (xs := x1.1) (o := x1.2.1.toNat) (z := ([] : List UInt8)); omega))⟩ (by first | omega | assumption | (simp only [List.length_append, List.length_cons, List.length_nil, List.length_replicate, put_len] at * <;> omega) | ((have hq := idx_rng s_ del; have hw := wr64 (n := m_slices_IndexFunc_string s_ del + 1) (by omega); first | omega | (rw [hw]; omega) | (dsimp only; omega) | (dsimp only; rw [hw]; omega) | (refine ⟨?_, ?_, ?_⟩ <;> dsimp only <;> first | omega | (rw [hw]; omega)))) | ((have hw2 := wr64 (n := x1.2.1 + 1) (by omega); have hl2 := put_len (xs := x1.1) (i := x1.2.1) (x := at' x1.1 x1.2.2); dsimp only; first | omega | (rw [hw2]; omega) | (refine ⟨?_, ?_, ?_⟩ <;> first | omega | (rw [hw2]; omega)) | (refine ⟨?_, ?_⟩ <;> first | omega | (rw [hw2]; omega)))) | ((have hc := cpy_tail_len (xs := x1.1) (o := x1.2.1.toNat) (z := ([] : List UInt8)); omega))) (sub_of [] ⟨os_len rfl (by first | (simp only [put_len]; done) | (first | omega | assumption | (simp only [List.length_append, List.length_cons, List.length_nil, List.length_replicate, put_len] at * <;> omega) | ((have hq := idx_rng s_ del; have hw := wr64 (n := m_slices_IndexFunc_string s_ del + 1) (by omega); first | omega | (rw [hw]; omega) | (dsimp only; omega) | (dsimp only; rw [hw]; omega) | (refine ⟨?_, ?_, ?_⟩ <;> dsimp only <;> first | omega | (rw [hw]; omega)))) | ((have hw2 := wr64 (n := x1.2.1 + 1) (by omega); have hl2 := put_len (xs := x1.1) (i := x1.2.1) (x := at' x1.1 x1.2.2); dsimp only; first | omega | (rw [hw2]; omega) | (refine ⟨?_, ?_, ?_⟩ <;> first | omega | (rw [hw2]; omega)) | (refine ⟨?_, ?_⟩ <;> first | omega | (rw [hw2]; omega)))) | ((have hc := cpy_tail_len (xs := x1.1) (o := x1.2.1.toNat) (z := ([] : List UInt8)); omega)))), clo_ren hr_del rfl, rfl, rfl, trivial⟩ ⟨rfl, trivial⟩ rfl)
        · try simp only [Bool.and_eq_true, Bool.or_eq_true, Bool.not_eq_true', Bool.and_eq_false_iff, Bool.or_eq_false_iff, Bool.not_eq_false', decide_eq_true_eq, decide_eq_false_iff_not, beq_iff_eq, bne_iff_ne, beq_eq_false_iff_ne, bne_eq_false_iff_eq, Bool.true_and, ne_eq, Decidable.not_not, Int.not_lt, Int.not_le, Nat.not_lt, Nat.not_le, strB_nil, strB_nil', strB_nnil, strB_nnil'] at h6
          refine run_skip ?_
          refine run_endB ?_
          refine run_region (q_move .n (.t rfl) rfl <|
              q_add .n (.t rfl) (.c rfl) (fun _ => by first | omega | assumption | (simp only [List.length_append, List.length_cons, List.length_nil, List.length_replicate, put_len] at * <;> omega) | ((have hq := idx_rng s_ del; have hw := wr64 (n := m_slices_IndexFunc_string s_ del + 1) (by omega); first | omega | (rw [hw]; omega) | (dsimp only; omega) | (dsimp only; rw [hw]; omega) | (refine ⟨?_, ?_, ?_⟩ <;> dsimp only <;> first | omega | (rw [hw]; omega)))) | ((have hw2 := wr64 (n := x1.2.1 + 1) (by omega); have hl2 := put_len (xs := x1.1) (i := x1.2.1) (x := at' x1.1 x1.2.2); dsimp only; first | omega | (rw [hw2]; omega) | (refine ⟨?_, ?_, ?_⟩ <;> first | omega | (rw [hw2]; omega)) | (refine ⟨?_, ?_⟩ <;> first | omega | (rw [hw2]; omega)))) | ((have hc := cpy_tail_len (xs := x1.1) (o := x1.2.1.toNat) (z := ([] : List UInt8)); omega))) rfl <|
              q_assign .n (.t rfl) rfl <|
              Lex.nil) ?_
          exact run_again (x1.1, x1.2.1, x1.2.2 + 1) ⟨by first | omega | assumption | (simp only [List.length_append, List.length_cons, List.length_nil, List.length_replicate, put_len] at * <;> omega) | ((have hq := idx_rng s_ del; have hw := wr64 (n := m_slices_IndexFunc_string s_ del + 1) (by omega); first | omega | (rw [hw]; omega) | (dsimp only; omega) | (dsimp only; rw [hw]; omega) | (refine ⟨?_, ?_, ?_⟩ <;> dsimp only <;> first | omega | (rw [hw]; omega)))) | ((have hw2 := wr64 (n := x1.2.1 + 1) (by omega); have hl2 := put_len (xs := x1.1) (i := x1.2.1) (x := at' x1.1 x1.2.2); dsimp only; first | omega | (rw [hw2]; omega) | (refine ⟨?_, ?_, ?_⟩ <;> first | omega | (rw [hw2]; omega)) | (refine ⟨?_, ?_⟩ <;> first | omega | (rw [hw2]; omega)))) | ((have hc := cpy_tail_len (xs := x1.1) (o := x1.2.1.toNat) (z := ([] : List UInt8)); omega)), by first | omega | assumption | (simp only [List.length_append, List.length_cons, List.length_nil, List.length_replicate, put_len] at * <;> omega) | ((have hq := idx_rng s_ del; have hw := wr64 (n := m_slices_IndexFunc_string s_ del + 1) (by omega); first | omega | (rw [hw]; omega) | (dsimp only; omega) | (dsimp only; rw [hw]; omega) | (refine ⟨?_, ?_, ?_⟩ <;> dsimp only <;> first | omega | (rw [hw]; omega)))) | ((have hw2 := wr64 (n := x1.2.1 + 1) (by omega); have hl2 := put_len (xs := x1.1) (i := x1.2.1) (x := at' x1.1 x1.2.2); dsimp only; first | omega | (rw [hw2]; omega) | (refine ⟨?_, ?_, ?_⟩ <;> first | omega | (rw [hw2]; omega)) | (refine ⟨?_, ?_⟩ <;> first | omega | (rw [hw2]; omega)))) | ((have hc := cpy_tail_len (xs := x1.1) (o := x1.2.1.toNat) (z := ([] : List UInt8)); omega)), by first | omega | assumption | (simp only [List.length_append, List.length_cons, List.length_nil, List.length_replicate, put_len] at * <;> omega) | ((have hq := idx_rng s_ del; have hw := wr64 (n := m_slices_IndexFunc_string s_ del + 1) (by omega); first | omega | (rw [hw]; omega) | (dsimp only; omega) | (dsimp only; rw [hw]; omega) | (refine ⟨?_, ?_, ?_⟩ <;> dsimp only <;> first | omega | (rw [hw]; omega)))) | ((have hw2 := wr64 (n := x1.2.1 + 1) (by omega); have hl2 := put_len (xs := x1.1) (i := x1.2.1) (x := at' x1.1 x1.2.2); dsimp only; first | omega | (rw [hw2]; omega) | (refine ⟨?_, ?_, ?_⟩ <;> first | omega | (rw [hw2]; omega)) | (refine ⟨?_, ?_⟩ <;> first | omega | (rw [hw2]; omega)))) | ((have hc := cpy_tail_len (xs := x1.1) (o := x1.2.1.toNat) (z := ([] : List UInt8)); omega)), by first | omega | assumption | (simp only [List.length_append, List.length_cons, List.length_nil, List.length_replicate, put_len] at * <;> omega) | ((have hq := idx_rng s_ del; have hw := wr64 (n := m_slices_IndexFunc_string s_ del + 1) (by omega); first | omega | (rw [hw]; omega) | (dsimp only; omega) | (dsimp only; rw [hw]; omega) | (refine ⟨?_, ?_, ?_⟩ <;> dsimp only <;> first | omega | (rw [hw]; omega)))) | ((have hw2 := wr64 (n := x1.2.1 + 1) (by omega); have hl2 := put_len (xs := x1.1) (i := x1.2.1) (x := at' x1.1 x1.2.2); dsimp only; first | omega | (rw [hw2]; omega) | (refine ⟨?_, ?_, ?_⟩ <;> first | omega | (rw [hw2]; omega)) | (refine ⟨?_, ?_⟩ <;> first | omega | (rw [hw2]; omega)))) | ((have hc := cpy_tail_len (xs := x1.1) (o := x1.2.1.toNat) (z := ([] : List UInt8)); omega))⟩ (by first | omega | assumption | (simp only [List.length_append, List.length_cons, List.length_nil, List.length_replicate, put_len] at * <;> omega) | ((have hq := idx_rng s_ del; have hw := wr64 (n := m_slices_IndexFunc_string s_ del + 1) (by omega); first | omega | (rw [hw]; omega) | (dsimp only; omega) | (dsimp only; rw [hw]; omega) | (refine ⟨?_, ?_, ?_⟩ <;> dsimp only <;> first | omega | (rw [hw]; omega)))) | ((have hw2 := wr64 (n := x1.2.1 + 1) (by omega); have hl2 := put_len (xs := x1.1) (i := x1.2.1) (x := at' x1.1 x1.2.2); dsimp only; first | omega | (rw [hw2]; omega) | (refine ⟨?_, ?_, ?_⟩ <;> first | omega | (rw [hw2]; omega)) | (refine ⟨?_, ?_⟩ <;> first | omega | (rw [hw2]; omega)))) | ((have hc := cpy_tail_len (xs := x1.1) (o := x1.2.1.toNat) (z := ([] : List UInt8)); omega))) (sub_of [] ⟨rfl, clo_ren hr_del rfl, rfl, rfl, trivial⟩ ⟨rfl, trivial⟩ rfl)
      · try simp only [Bool.and_eq_true, Bool.or_eq_true, Bool.not_eq_true', Bool.and_eq_false_iff, Bool.or_eq_false_iff, Bool.not_eq_false', decide_eq_true_eq, decide_eq_false_iff_not, beq_iff_eq, bne_iff_ne, beq_eq_false_iff_ne, bne_eq_false_iff_eq, Bool.true_and, ne_eq, Decidable.not_not, Int.not_lt, Int.not_le, Nat.not_lt, Nat.not_le, strB_nil, strB_nil', strB_nnil, strB_nnil'] at h5
        refine run_exit rfl ?_
        exact run_cont hk3 (x1.1, x1.2.1, x1.2.2) ⟨by first | omega | assumption | (simp only [List.length_append, List.length_cons, List.length_nil, List.length_replicate, put_len] at * <;> omega) | ((have hq := idx_rng s_ del; have hw := wr64 (n := m_slices_IndexFunc_string s_ del + 1) (by omega); first | omega | (rw [hw]; omega) | (dsimp only; omega) | (dsimp only; rw [hw]; omega) | (refine ⟨?_, ?_, ?_⟩ <;> dsimp only <;> first | omega | (rw [hw]; omega)))) | ((have hw2 := wr64 (n := x1.2.1 + 1) (by omega); have hl2 := put_len (xs := x1.1) (i := x1.2.1) (x := at' x1.1 x1.2.2); dsimp only; first | omega | (rw [hw2]; omega) | (refine ⟨?_, ?_, ?_⟩ <;> first | omega | (rw [hw2]; omega)) | (refine ⟨?_, ?_⟩ <;> first | omega | (rw [hw2]; omega)))) | ((have hc := cpy_tail_len (xs := x1.1) (o := x1.2.1.toNat) (z := ([] : List UInt8)); omega)), by first | omega | assumption | (simp only [List.length_append, List.length_cons, List.length_nil, List.length_replicate, put_len] at * <;> omega) | ((have hq := idx_rng s_ del; have hw := wr64 (n := m_slices_IndexFunc_string s_ del + 1) (by omega); first | omega | (rw [hw]; omega) | (dsimp only; omega) | (dsimp only; rw [hw]; omega) | (refine ⟨?_, ?_, ?_⟩ <;> dsimp only <;> first | omega | (rw [hw]; omega)))) | ((have hw2 := wr64 (n := x1.2.1 + 1) (by omega); have hl2 := put_len (xs := x1.1) (i := x1.2.1) (x := at' x1.1 x1.2.2); dsimp only; first | omega | (rw [hw2]; omega) | (refine ⟨?_, ?_, ?_⟩ <;> first | omega | (rw [hw2]; omega)) | (refine ⟨?_, ?_⟩ <;> first | omega | (rw [hw2]; omega)))) | ((have hc := cpy_tail_len (xs := x1.1) (o := x1.2.1.toNat) (z := ([] : List UInt8)); omega)), by first | omega | assumption | (simp only [List.length_append, List.length_cons, List.length_nil, List.length_replicate, put_len] at * <;> omega) | ((have hq := idx_rng s_ del; have hw := wr64 (n := m_slices_IndexFunc_string s_ del + 1) (by omega); first | omega | (rw [hw]; omega) | (dsimp only; omega) | (dsimp only; rw [hw]; omega) | (refine ⟨?_, ?_, ?_⟩ <;> dsimp only <;> first | omega | (rw [hw]; omega)))) | ((have hw2 := wr64 (n := x1.2.1 + 1) (by omega); have hl2 := put_len (xs := x1.1) (i := x1.2.1) (x := at' x1.1 x1.2.2); dsimp only; first | omega | (rw [hw2]; omega) | (refine ⟨?_, ?_, ?_⟩ <;> first | omega | (rw [hw2]; omega)) | (refine ⟨?_, ?_⟩ <;> first | omega | (rw [hw2]; omega)))) | ((have hc := cpy_tail_len (xs := x1.1) (o := x1.2.1.toNat) (z := ([] : List UInt8)); omega)), by first | omega | assumption | (simp only [List.length_append, List.length_cons, List.length_nil, List.length_replicate, put_len] at * <;> omega) | ((have hq := idx_rng s_ del; have hw := wr64 (n := m_slices_IndexFunc_string s_ del + 1) (by omega); first | omega | (rw [hw]; omega) | (dsimp only; omega) | (dsimp only; rw [hw]; omega) | (refine ⟨?_, ?_, ?_⟩ <;> dsimp only <;> first | omega | (rw [hw]; omega)))) | ((have hw2 := wr64 (n := x1.2.1 + 1) (by omega); have hl2 := put_len (xs := x1.1) (i := x1.2.1) (x := at' x1.1 x1.2.2); dsimp only; first | omega | (rw [hw2]; omega) | (refine ⟨?_, ?_, ?_⟩ <;> first | omega | (rw [hw2]; omega)) | (refine ⟨?_, ?_⟩ <;> first | omega | (rw [hw2]; omega)))) | ((have hc := cpy_tail_len (xs := x1.1) (o := x1.2.1.toNat) (z := ([] : List UInt8)); omega))⟩ (sub_of [] ⟨rfl, rfl, trivial⟩ ⟨rfl, trivial⟩ rfl)

/-! ### impl_valueAt -/
theorem c_impl_valueAt (list : List gSetting) (name : List UInt8) : Con Try.prog 71 [.sl 2 (list.map gSetting.v), .str name] [] (.tup [.int .i64 (m_impl_valueAt list name).1, .bool (m_impl_valueAt list name).2]) ([]) := by
  refine con_intro (out := fun r : Int × Bool => ((.tup [.int .i64 r.1, .bool r.2] : V), ([] : List (Nat × Option O)))) (r := (m_impl_valueAt list name)) Try.func71 rfl Try.ntmps71 rfl ?_
  refine run_fact (t := 0) rfl fun hl => ?_
  have l1 := hl; clear hl; simp only [List.length_map] at l1
  refine run_seq ?_
  refine run_region (q_assign .n (.c rfl) rfl <|
      q_assign .n (.c rfl) rfl <|
      Lex.nil) ?_
  refine run_seq ?_
  refine run_seq ?_
  refine run_region (q_move .n (.t rfl) rfl <|
      q_len .n (.t rfl) rfl len_map ss_40 rfl <|
      q_move .n (.c rfl) rfl <|
      Lex.nil) ?_
  refine run_block ?_
  refine run_LOOP (m_impl_valueAt_b1 list name) _ _ _ rfl (fun (x1 : Int) => 0 ≤ x1 ∧ x1 ≤ (list.length : Int)) (fun x1 => 0 ≤ x1 ∧ x1 ≤ (list.length : Int) ∧ (list.length : Int) ≤ x1) (fun x1 => ((list.length : Int) - x1 : Int).toNat) (fun x1 => ⟨[(1, some (true, .str name)), (8, some (true, .sl 2 (list.map gSetting.v))), (9, some (true, .int .i64 (list.length : Int))), (10, some (true, .int .i64 x1))], []⟩) (fun x1 => ⟨[], []⟩) ⟨by first | omega | assumption | (simp only [List.length_append, List.length_cons, List.length_nil, List.length_replicate, put_len] at * <;> omega), by first | omega | assumption | (simp only [List.length_append, List.length_cons, List.length_nil, List.length_replicate, put_len] at * <;> omega)⟩ (by first | omega | assumption | (simp only [List.length_append, List.length_cons, List.length_nil, List.length_replicate, put_len] at * <;> omega)) (sub_of [] ⟨rfl, rfl, rfl, rfl, trivial⟩ trivial rfl) ?_ ?_
  · intro x1 i6
    obtain ⟨e7, e8, e9⟩ := i6
    try dsimp only at *
    refine run_seq ?_
    refine run_region (q_assign .n (.c rfl) rfl <|
        q_assign .n (.c rfl) rfl <|
        Lex.nil) ?_
    exact run_ret [] (.cons (.t rfl rfl) (.cons (.t rfl rfl) .nil)) rfl trivial rfl
  · intro rec1 k1 hk2 x1 i3
    obtain ⟨e10, e11⟩ := i3
    try dsimp only at *
    refine run_seq ?_
    refine run_region (q_int .n (.t rfl) (.t rfl) rfl rfl <|
        Lex.nil) ?_
    refine run_seq ?_
    refine run_cond (.t rfl) rfl (fun h4 => ?_) (fun h4 => ?_)
    · try simp only [Bool.and_eq_true, Bool.or_eq_true, Bool.not_eq_true', Bool.and_eq_false_iff, Bool.or_eq_false_iff, Bool.not_eq_false', decide_eq_true_eq, decide_eq_false_iff_not, beq_iff_eq, bne_iff_ne, beq_eq_false_iff_ne, bne_eq_false_iff_eq, Bool.true_and, ne_eq, Decidable.not_not, Int.not_lt, Int.not_le, Nat.not_lt, Nat.not_le, strB_nil, strB_nil', strB_nnil, strB_nnil'] at h4
      refine run_skip ?_
      refine run_seq ?_
      refine run_block ?_
      refine run_seq ?_
      refine run_region (q_idx_rm .n (.t rfl) (.t rfl) sl_40 (fun _ => by first | omega | assumption | (simp only [List.length_append, List.length_cons, List.length_nil, List.length_replicate, put_len] at * <;> omega)) rfl <|
          q_ldN_ro .n (.t rfl) ag_65 rfl rfl rfl <|
          q_alloc (l := 200) .n rfl zv_65 rfl rfl <|
          q_st_boxm [.str (at' list x1).Name, .int .i64 (at' list x1).Value] .n rfl (.t rfl) (.t rfl) rfl ts_65 rfl rfl <|
          Lex.nil) ?_
      refine run_seq ?_
      refine run_region (q_fld_ow .n (.t rfl) fo_65_0 rfl <|
          q_ld1_ow .n (.t rfl) rfl (.inr rfl) (fun _ => rfl) rfl ic_9 rfl <|
          q_move .n (.t rfl) rfl <|
          q_strcmp .n (.t rfl) (.t rfl) rfl rfl <|
          Lex.nil) ?_
      refine run_cond (.t rfl) rfl (fun h5 => ?_) (fun h5 => ?_)
      · try simp only [Bool.and_eq_true, Bool.or_eq_true, Bool.not_eq_true', Bool.and_eq_false_iff, Bool.or_eq_false_iff, Bool.not_eq_false', decide_eq_true_eq, decide_eq_false_iff_not, beq_iff_eq, bne_iff_ne, beq_eq_false_iff_ne, bne_eq_false_iff_eq, Bool.true_and, ne_eq, Decidable.not_not, Int.not_lt, Int.not_le, Nat.not_lt, Nat.not_le, strB_nil, strB_nil', strB_nnil, strB_nnil'] at h5
        refine run_seq ?_
        refine run_region (q_fld_ow .n (.t rfl) fo_65_1 rfl <|
            q_ld1_ow .n (.t rfl) rfl (.inr rfl) (fun _ => rfl) rfl ic_2 rfl <|
            q_assign .n (.t rfl) rfl <|
            q_assign .n (.c rfl) rfl <|
            Lex.nil) ?_
        exact run_ret [] (.cons (.t rfl rfl) (.cons (.t rfl rfl) .nil)) rfl trivial rfl
      · try simp only [Bool.and_eq_true, Bool.or_eq_true, Bool.not_eq_true', Bool.and_eq_false_iff, Bool.or_eq_false_iff, Bool.not_eq_false', decide_eq_true_eq, decide_eq_false_iff_not, beq_iff_eq, bne_iff_ne, beq_eq_false_iff_ne, bne_eq_false_iff_eq, Bool.true_and, ne_eq, Decidable.not_not, Int.not_lt, Int.not_le, Nat.not_lt, Nat.not_le, strB_nil, strB_nil', strB_nnil, strB_nnil'] at h5
        refine run_skip ?_
        refine run_endB ?_
        refine run_region (q_add .n (.t rfl) (.c rfl) (fun _ => by first | omega | assumption | (simp only [List.length_append, List.length_cons, List.length_nil, List.length_replicate, put_len] at * <;> omega)) rfl <|
            q_move .n (.t rfl) rfl <|
            Lex.nil) ?_
        exact run_again (x1 + 1) ⟨by first | omega | assumption | (simp only [List.length_append, List.length_cons, List.length_nil, List.length_replicate, put_len] at * <;> omega), by first | omega | assumption | (simp only [List.length_append, List.length_cons, List.length_nil, List.length_replicate, put_len] at * <;> omega)⟩ (by first | omega | assumption | (simp only [List.length_append, List.length_cons, List.length_nil, List.length_replicate, put_len] at * <;> omega)) (sub_of [] ⟨rfl, rfl, rfl, rfl, trivial⟩ trivial rfl)
    · try simp only [Bool.and_eq_true, Bool.or_eq_true, Bool.not_eq_true', Bool.and_eq_false_iff, Bool.or_eq_false_iff, Bool.not_eq_false', decide_eq_true_eq, decide_eq_false_iff_not, beq_iff_eq, bne_iff_ne, beq_eq_false_iff_ne, bne_eq_false_iff_eq, Bool.true_and, ne_eq, Decidable.not_not, Int.not_lt, Int.not_le, Nat.not_lt, Nat.not_le, strB_nil, strB_nil', strB_nnil, strB_nnil'] at h4
      refine run_exit rfl ?_
      exact run_cont hk2 x1 ⟨by first | omega | assumption | (simp only [List.length_append, List.length_cons, List.length_nil, List.length_replicate, put_len] at * <;> omega), by first | omega | assumption | (simp only [List.length_append, List.length_cons, List.length_nil, List.length_replicate, put_len] at * <;> omega), by first | omega | assumption | (simp only [List.length_append, List.length_cons, List.length_nil, List.length_replicate, put_len] at * <;> omega)⟩ (sub_of [] trivial trivial rfl)

/-! ### impl_thingAt -/
theorem c_impl_thingAt (list : List gSetting) (name : List UInt8) : Con Try.prog 51 [.sl 2 (list.map gSetting.v), .str name] [] (.st [.int .i64 (m_impl_thingAt list name).value, .bool (m_impl_thingAt list name).there]) ([]) := by
  refine con_intro (out := fun r : gthing => ((.st [.int .i64 r.value, .bool r.there] : V), ([] : List (Nat × Option O)))) (r := (m_impl_thingAt list name)) Try.func51 rfl Try.ntmps51 rfl ?_
  refine run_fact (t := 0) rfl fun hl => ?_
  have l1 := hl; clear hl; simp only [List.length_map] at l1
  refine run_seq ?_
  refine run_region (q_alloc (l := 200) .n rfl zv_70 rfl rfl <|
      Lex.nil) ?_
  refine run_seq ?_
  refine run_region (q_move .n (.t rfl) rfl <|
      q_move .n (.t rfl) rfl <|
      q_call0 (full := false) .n .f en_71 (.cons (.t rfl) (.cons (.t rfl) .nil)) (.cons (.b (.a (.same rfl))) (.cons (.b (.a (.same rfl))) .nil)) (fun hg => c_impl_valueAt list name) rfl (fun h => Bool.noConfusion h) rfl <|
      q_move .n (.t rfl) rfl <|
      q_ext .n (.t rfl) rfl rfl rfl <|
      q_ext .n (.t rfl) rfl rfl rfl <|
      q_assign .n (.t rfl) rfl <|
      q_assign .n (.t rfl) rfl <|
      Lex.nil) ?_
  refine run_seq ?_
  refine run_region (q_move .n (.t rfl) rfl <|
      q_move .n (.t rfl) rfl <|
      q_build (us := [.int .i64 (m_impl_valueAt list name).1, .bool (m_impl_valueAt list name).2]) .n (.cons (.t rfl) (.cons (.t rfl) .nil)) zv_70 pl_70 rfl rfl rfl <|
      q_st_boxm [.int .i64 (m_impl_valueAt list name).1, .bool (m_impl_valueAt list name).2] .n rfl (.t rfl) (.t rfl) rfl ts_70 rfl rfl <|
      Lex.nil) ?_
  exact run_ret [] (.cons (.cN rfl rfl ag_70 rfl rfl) .nil) (by first | rfl | (simp only [put_len]; rfl)) trivial rfl

/-! ### impl_conflictsOf_1 -/
theorem c_impl_conflictsOf_1 (name : List UInt8) (p1 : List gSetting) (p2 : List gSetting) (p3 : List gSetting) : Con Try.prog 70 [.str name, .rp [.sl 2 (p1.map gSetting.v)], .rp [.sl 2 (p2.map gSetting.v)], .rp [.sl 2 (p3.map gSetting.v)]] [] (.bool (m_impl_conflictsOf_1 name p1 p2 p3)) ([]) := by
  refine con_intro (out := fun r : Bool => ((.bool r : V), ([] : List (Nat × Option O)))) (r := (m_impl_conflictsOf_1 name p1 p2 p3)) Try.func70 rfl Try.ntmps70 rfl ?_
  refine run_factP (t := 1) 0 rfl rfl fun hl => ?_
  have l1 := hl; clear hl; simp only [List.length_map] at l1
  refine run_factP (t := 2) 0 rfl rfl fun hl => ?_
  have l2 := hl; clear hl; simp only [List.length_map] at l2
  refine run_factP (t := 3) 0 rfl rfl fun hl => ?_
  have l3 := hl; clear hl; simp only [List.length_map] at l3
  refine run_seq ?_
  refine run_region (q_assign .n (.c rfl) rfl <|
      Lex.nil) ?_
  refine run_seq ?_
  refine run_draw fmo (q_ld1_ro .n (.t rfl) rfl ic_40 rfl <|
      q_move .n (.t rfl) rfl <|
      q_call0 (full := false) .n .f en_51 (.cons (.t rfl) (.cons (.t rfl) .nil)) (.cons (.b (.a (.same rfl))) (.cons (.b (.a (.same rfl))) .nil)) (fun hg => c_impl_thingAt p1 name) rfl (fun h => Bool.noConfusion h) rfl <|
      q_ld1_ro .n (.t rfl) rfl ic_40 rfl <|
      q_move .n (.t rfl) rfl <|
      q_call0 (full := false) .n .f en_51 (.cons (.t rfl) (.cons (.t rfl) .nil)) (.cons (.b (.a (.same rfl))) (.cons (.b (.a (.same rfl))) .nil)) (fun hg => c_impl_thingAt p2 name) rfl (fun h => Bool.noConfusion h) rfl <|
      q_ld1_ro .n (.t rfl) rfl ic_40 rfl <|
      q_move .n (.t rfl) rfl <|
      q_call0 (full := false) .n .f en_51 (.cons (.t rfl) (.cons (.t rfl) .nil)) (.cons (.b (.a (.same rfl))) (.cons (.b (.a (.same rfl))) .nil)) (fun hg => c_impl_thingAt p3 name) rfl (fun h => Bool.noConfusion h) rfl <|
      q_alloc (l := 200) .n rfl zv_70 rfl rfl <|
      q_alloc (l := 201) .n rfl zv_70 rfl rfl <|
      q_alloc (l := 202) .n rfl zv_70 rfl rfl <|
      q_st_boxm [.int .i64 (m_impl_thingAt p1 name).value, .bool (m_impl_thingAt p1 name).there] .n rfl (.t rfl) (.t rfl) rfl ts_70 rfl rfl <|
      q_st_boxm [.int .i64 (m_impl_thingAt p2 name).value, .bool (m_impl_thingAt p2 name).there] .n rfl (.t rfl) (.t rfl) rfl ts_70 rfl rfl <|
      q_st_boxm [.int .i64 (m_impl_thingAt p3 name).value, .bool (m_impl_thingAt p3 name).there] .n rfl (.t rfl) (.t rfl) rfl ts_70 rfl rfl <|
      Lex.nil) (by kernel_rfl) ?_
  refine run_seq ?_
  refine run_region (q_ldN_ow .n (.t rfl) rfl (.inr rfl) ag_70 (fun _ => rfl) rfl rfl <|
      q_ldN_ow .n (.t rfl) rfl (.inr rfl) ag_70 (fun _ => rfl) rfl rfl <|
      q_steq ((((m_impl_thingAt p2 name).value == (m_impl_thingAt p3 name).value) && (((m_impl_thingAt p2 name).there == (m_impl_thingAt p3 name).there) && true))) .n (.t rfl) (.t rfl) (by kernel_rfl) rfl rfl <|
      q_move .n (.t rfl) rfl <|
      q_ldN_ow (.f rfl rfl) (.t rfl) rfl (.inr rfl) ag_70 (fun _ => rfl) rfl rfl <|
      q_ldN_ow (.f rfl rfl) (.t rfl) rfl (.inr rfl) ag_70 (fun _ => rfl) rfl rfl <|
      q_steq ((((m_impl_thingAt p2 name).value == (m_impl_thingAt p1 name).value) && (((m_impl_thingAt p2 name).there == (m_impl_thingAt p1 name).there) && true))) (.f rfl rfl) (.u rfl id) (.u rfl id) (by kernel_rfl) rfl rfl <|
      q_or .n (.t rfl) (.u rfl id) rfl <|
      q_move .n (.t rfl) rfl <|
      q_ldN_ow (.f rfl rfl) (.t rfl) rfl (.inr rfl) ag_70 (fun _ => rfl) rfl rfl <|
      q_ldN_ow (.f rfl rfl) (.t rfl) rfl (.inr rfl) ag_70 (fun _ => rfl) rfl rfl <|
      q_steq ((((m_impl_thingAt p3 name).value == (m_impl_thingAt p1 name).value) && (((m_impl_thingAt p3 name).there == (m_impl_thingAt p1 name).there) && true))) (.f rfl rfl) (.u rfl id) (.u rfl id) (by kernel_rfl) rfl rfl <|
      q_or .n (.t rfl) (.u rfl id) rfl <|
      q_assign .n (.t rfl) rfl <|
      Lex.nil) ?_
  exact run_ret [] (.cons (.t rfl rfl) .nil) rfl trivial rfl

/-! ### impl_conflictsOf -/
theorem c_impl_conflictsOf (base : List gSetting) (a : List gSetting) (b : List gSetting) (hp1 : base.length ≤ 24) (hp2 : a.length ≤ 24) (hp3 : b.length ≤ 24) : Con Try.prog 47 [.sl 2 (base.map gSetting.v), .sl 2 (a.map gSetting.v), .sl 2 (b.map gSetting.v)] [] (.os 100 (m_impl_conflictsOf base a b).length) ([(100, some (.row 9 1 ((m_impl_conflictsOf base a b).map V.str)))]) := by
  refine con_intro (out := fun r : (List (List UInt8)) => ((.os 100 r.length : V), ([(100, some (.row 9 1 (r.map V.str)))] : List (Nat × Option O)))) (r := (m_impl_conflictsOf base a b)) Try.func47 rfl Try.ntmps47 rfl ?_
  refine run_fact (t := 0) rfl fun hl => ?_
  have l1 := hl; clear hl; simp only [List.length_map] at l1
  refine run_fact (t := 1) rfl fun hl => ?_
  have l2 := hl; clear hl; simp only [List.length_map] at l2
  refine run_fact (t := 2) rfl fun hl => ?_
  have l3 := hl; clear hl; simp only [List.length_map] at l3
  refine run_seq ?_
  refine run_region (q_box (l := 200) .n rfl (.t rfl) rfl rfl rfl rfl <|
      q_box (l := 201) .n rfl (.t rfl) rfl rfl rfl rfl <|
      q_box (l := 202) .n rfl (.t rfl) rfl rfl rfl rfl <|
      q_assign .n (.c rfl) rfl <|
      Lex.nil) ?_
  refine run_seq ?_
  refine run_region (q_ld1_ow .n (.t rfl) rfl (.inr rfl) (fun _ => rfl) rfl ic_40 rfl <|
      q_ld1_ow .n (.t rfl) rfl (.inr rfl) (fun _ => rfl) rfl ic_40 rfl <|
      q_ld1_ow .n (.t rfl) rfl (.inr rfl) (fun _ => rfl) rfl ic_40 rfl <|
      q_bslicem ([base, a, b] : List (List gSetting)) (f := slv 2 gSetting.v) (l := 203) .n rfl rfl (.cons (.t rfl) (.cons (.t rfl) (.cons (.t rfl) .nil))) rfl si_92 zv_40 rfl rfl rfl <|
      q_callM (full := true) [] [(100, 204)] .n rfl .f en_50 (.cons (.t rfl) .nil) (.cons (.b (.a (.own rfl rfl rfl (take_all (by simp only [len_map, put_len] <;> rfl)) (by simp only [len_map, put_len] <;> rfl)))) .nil) (c_impl_namesOf ([base, a, b] : List (List gSetting)) (by first | omega | assumption | (simp only [List.length_append, List.length_cons, List.length_nil, List.length_replicate, put_len] at * <;> omega) | ((intro y hy; simp only [List.mem_cons, List.not_mem_nil, or_false] at hy; rcases hy with rfl | rfl | rfl <;> assumption)) | ((have hq := namesI_len hp1 hp2 hp3; omega))) (by first | omega | assumption | (simp only [List.length_append, List.length_cons, List.length_nil, List.length_replicate, put_len] at * <;> omega) | ((intro y hy; simp only [List.mem_cons, List.not_mem_nil, or_false] at hy; rcases hy with rfl | rfl | rfl <;> assumption)) | ((have hq := namesI_len hp1 hp2 hp3; omega)))) trivial rfl rfl (fun _ => rfl) (fun _ => (hr_row (fun _ => rfl) hr_nil)) rfl <|
      q_clo .n (.cons (.t rfl) (.cons (.t rfl) (.cons (.t rfl) .nil))) rfl rfl <|
      q_callM (full := true) [(0, 204)] [] .n rfl .f en_69 (.cons (.t rfl) (.cons (.t rfl) .nil)) (.cons (.b (.muts rfl)) (.cons (.clo (.cons (.ptr rfl rfl (.inr rfl) rfl rfl (.cons (.same rfl) .nil)) (.cons (.ptr rfl rfl (.inr rfl) rfl rfl (.cons (.same rfl) .nil)) (.cons (.ptr rfl rfl (.inr rfl) rfl rfl (.cons (.same rfl) .nil)) .nil)))) .nil)) (c_slices_DeleteFunc_string (m_impl_namesOf ([base, a, b] : List (List gSetting))) (fun (a0 : List UInt8) => m_impl_conflictsOf_1 a0 base a b) 70 [.rp [.sl 2 (base.map gSetting.v)], .rp [.sl 2 (a.map gSetting.v)], .rp [.sl 2 (b.map gSetting.v)]] en_70 rfl (fun a0 => c_impl_conflictsOf_1 a0 base a b) (by first | omega | assumption | (simp only [List.length_append, List.length_cons, List.length_nil, List.length_replicate, put_len] at * <;> omega) | ((intro y hy; simp only [List.mem_cons, List.not_mem_nil, or_false] at hy; rcases hy with rfl | rfl | rfl <;> assumption)) | ((have hq := namesI_len hp1 hp2 hp3; omega)))) ⟨rfl, trivial⟩ rfl rfl (fun _ => rfl) (fun _ => (hr_row (fun _ => rfl) hr_nil)) rfl <|
      q_assign .n (.t rfl) rfl <|
      Lex.nil) ?_
  exact run_ret [(100, 204)] (.cons (.t rfl rfl) .nil) (by first | rfl | (simp only [put_len]; rfl)) ⟨rfl, trivial⟩ rfl

/-! ### impl_MergeStates -/
set_option maxHeartbeats 4000000 in
theorem c_impl_MergeStates (base : List gSetting) (a : List gSetting) (b : List gSetting) : Con Try.prog 26 [.sl 2 (base.map gSetting.v), .sl 2 (a.map gSetting.v), .sl 2 (b.map gSetting.v)] [] (.tup [.os 100 (m_impl_MergeStates base a b).1.length, .int .i64 (m_impl_MergeStates base a b).2]) ([(100, some (.row 65 2 ((m_impl_MergeStates base a b).1.map gSetting.v)))]) := by
  refine con_intro (out := fun r : (List gSetting) × Int => ((.tup [.os 100 r.1.length, .int .i64 r.2] : V), ([(100, some (.row 65 2 (r.1.map gSetting.v)))] : List (Nat × Option O)))) (r := (m_impl_MergeStates base a b)) Try.func26 rfl Try.ntmps26 rfl ?_
  refine run_fact (t := 0) rfl fun hl => ?_
  have l1 := hl; clear hl; simp only [List.length_map] at l1
  refine run_fact (t := 1) rfl fun hl => ?_
  have l2 := hl; clear hl; simp only [List.length_map] at l2
  refine run_fact (t := 2) rfl fun hl => ?_
  have l3 := hl; clear hl; simp only [List.length_map] at l3
  refine run_seq ?_
  refine run_region (q_assign .n (.c rfl) rfl <|
      q_assign .n (.c rfl) rfl <|
      Lex.nil) ?_
  refine run_seq ?_
  refine run_block ?_
  refine run_seq ?_
  refine run_region (q_move .n (.t rfl) rfl <|
      q_call0 (full := false) .n .f en_46 (.cons (.t rfl) .nil) (.cons (.b (.a (.same rfl))) .nil) (fun hg => c_impl_ValidState base) rfl (fun h => Bool.noConfusion h) rfl <|
      q_not .n (.t rfl) rfl <|
      q_move .n (.t rfl) rfl <|
      q_move (.f rfl rfl) (.t rfl) rfl <|
      q_call0 (full := false) (.f rfl rfl) .f en_46 (.cons (.u rfl id) .nil) (.cons (.b (.a (.same rfl))) .nil) (fun hg => c_impl_ValidState a) rfl (fun h => Bool.noConfusion h) rfl <|
      q_not (.f rfl rfl) (.u rfl id) rfl <|
      q_or .n (.t rfl) (.u rfl id) rfl <|
      q_move .n (.t rfl) rfl <|
      q_move (.f rfl rfl) (.t rfl) rfl <|
      q_call0 (full := false) (.f rfl rfl) .f en_46 (.cons (.u rfl id) .nil) (.cons (.b (.a (.same rfl))) .nil) (fun hg => c_impl_ValidState b) rfl (fun h => Bool.noConfusion h) rfl <|
      q_not (.f rfl rfl) (.u rfl id) rfl <|
      q_or .n (.t rfl) (.u rfl id) rfl <|
      q_assign .n (.t rfl) rfl <|
      Lex.nil) ?_
  refine run_cond (.t rfl) rfl (fun h4 => ?_) (fun h4 => ?_)
  · try simp only [Bool.and_eq_true, Bool.or_eq_true, Bool.not_eq_true', Bool.and_eq_false_iff, Bool.or_eq_false_iff, Bool.not_eq_false', decide_eq_true_eq, decide_eq_false_iff_not, beq_iff_eq, bne_iff_ne, beq_eq_false_iff_ne, bne_eq_false_iff_eq, Bool.true_and, ne_eq, Decidable.not_not, Int.not_lt, Int.not_le, Nat.not_lt, Nat.not_le, strB_nil, strB_nil', strB_nnil, strB_nnil'] at h4
    try have hf0h4 := state_l24I h4
    try have hf1h4 := state_l24I h4.1
    try have hf2h4 := state_l24I h4.2
    try have hf3h4 := state_l24I h4.1.1
    try have hf4h4 := state_l24I h4.1.2
    try have hf5h4 := state_l24I h4.2.1
    try have hf6h4 := state_l24I h4.2.2
    refine run_seq ?_
    refine run_region (q_assign .n (.c rfl) rfl <|
        q_assign .n (.c rfl) rfl <|
        Lex.nil) ?_
    refine run_sub (sub_adopt (t := 6) (l := 200) (el := 65) (sz := 2) rfl rfl) ?_
    exact run_ret [(100, 200)] (.cons (.t rfl rfl) (.cons (.t rfl rfl) .nil)) (by first | rfl | (simp only [put_len]; rfl)) ⟨rfl, trivial⟩ rfl
  · try simp only [Bool.and_eq_true, Bool.or_eq_true, Bool.not_eq_true', Bool.and_eq_false_iff, Bool.or_eq_false_iff, Bool.not_eq_false', decide_eq_true_eq, decide_eq_false_iff_not, beq_iff_eq, bne_iff_ne, beq_eq_false_iff_ne, bne_eq_false_iff_eq, Bool.true_and, ne_eq, Decidable.not_not, Int.not_lt, Int.not_le, Nat.not_lt, Nat.not_le, strB_nil, strB_nil', strB_nnil, strB_nnil'] at h4
    try have hf0h4 := state_l24I h4
    try have hf1h4 := state_l24I h4.1
    try have hf2h4 := state_l24I h4.2
    try have hf3h4 := state_l24I h4.1.1
    try have hf4h4 := state_l24I h4.1.2
    try have hf5h4 := state_l24I h4.2.1
    try have hf6h4 := state_l24I h4.2.2
    refine run_seq ?_
    refine run_region (q_move .n (.t rfl) rfl <|
        q_move .n (.t rfl) rfl <|
        q_move .n (.t rfl) rfl <|
        q_callM (full := false) [] [(100, 201)] .n rfl .f en_47 (.cons (.t rfl) (.cons (.t rfl) (.cons (.t rfl) .nil))) (.cons (.b (.a (.same rfl))) (.cons (.b (.a (.same rfl))) (.cons (.b (.a (.same rfl))) .nil))) (c_impl_conflictsOf base a b (by first | omega | assumption | (simp only [List.length_append, List.length_cons, List.length_nil, List.length_replicate, put_len] at * <;> omega) | ((intro y hy; simp only [List.mem_cons, List.not_mem_nil, or_false] at hy; rcases hy with rfl | rfl | rfl <;> assumption)) | ((have hq := namesI_len (base := base) (a := a) (b := b) (by assumption) (by assumption) (by assumption); first | omega | (simp only [List.length_append, List.length_cons, List.length_nil]; omega)))) (by first | omega | assumption | (simp only [List.length_append, List.length_cons, List.length_nil, List.length_replicate, put_len] at * <;> omega) | ((intro y hy; simp only [List.mem_cons, List.not_mem_nil, or_false] at hy; rcases hy with rfl | rfl | rfl <;> assumption)) | ((have hq := namesI_len (base := base) (a := a) (b := b) (by assumption) (by assumption) (by assumption); first | omega | (simp only [List.length_append, List.length_cons, List.length_nil]; omega)))) (by first | omega | assumption | (simp only [List.length_append, List.length_cons, List.length_nil, List.length_replicate, put_len] at * <;> omega) | ((intro y hy; simp only [List.mem_cons, List.not_mem_nil, or_false] at hy; rcases hy with rfl | rfl | rfl <;> assumption)) | ((have hq := namesI_len (base := base) (a := a) (b := b) (by assumption) (by assumption) (by assumption); first | omega | (simp only [List.length_append, List.length_cons, List.length_nil]; omega))))) trivial rfl rfl (fun h => Bool.noConfusion h) (fun h => Bool.noConfusion h) rfl <|
        q_len .n (.t rfl) rfl rfl ss_30 rfl <|
        q_int .n (.t rfl) (.c rfl) rfl rfl <|
        q_assign .n (.t rfl) rfl <|
        Lex.nil) ?_
    refine run_cond (.t rfl) rfl (fun h5 => ?_) (fun h5 => ?_)
    · try simp only [Bool.and_eq_true, Bool.or_eq_true, Bool.not_eq_true', Bool.and_eq_false_iff, Bool.or_eq_false_iff, Bool.not_eq_false', decide_eq_true_eq, decide_eq_false_iff_not, beq_iff_eq, bne_iff_ne, beq_eq_false_iff_ne, bne_eq_false_iff_eq, Bool.true_and, ne_eq, Decidable.not_not, Int.not_lt, Int.not_le, Nat.not_lt, Nat.not_le, strB_nil, strB_nil', strB_nnil, strB_nnil'] at h5
      refine run_seq ?_
      refine run_region (q_assign .n (.c rfl) rfl <|
          q_assign .n (.c rfl) rfl <|
          Lex.nil) ?_
      refine run_sub (sub_adopt (t := 6) (l := 202) (el := 65) (sz := 2) rfl rfl) ?_
      exact run_ret [(100, 202)] (.cons (.t rfl rfl) (.cons (.t rfl rfl) .nil)) (by first | rfl | (simp only [put_len]; rfl)) ⟨rfl, trivial⟩ rfl
    · try simp only [Bool.and_eq_true, Bool.or_eq_true, Bool.not_eq_true', Bool.and_eq_false_iff, Bool.or_eq_false_iff, Bool.not_eq_false', decide_eq_true_eq, decide_eq_false_iff_not, beq_iff_eq, bne_iff_ne, beq_eq_false_iff_ne, bne_eq_false_iff_eq, Bool.true_and, ne_eq, Decidable.not_not, Int.not_lt, Int.not_le, Nat.not_lt, Nat.not_le, strB_nil, strB_nil', strB_nnil, strB_nnil'] at h5
      refine run_skip ?_
      refine run_endB ?_
      refine run_seq ?_
      refine run_region (q_assign .n (.c rfl) rfl <|
          Lex.nil) ?_
      refine run_seq ?_
      refine run_seq ?_
      refine run_region (q_move .n (.t rfl) rfl <|
          q_move .n (.t rfl) rfl <|
          q_move .n (.t rfl) rfl <|
          q_bslicem ([base, a, b] : List (List gSetting)) (f := slv 2 gSetting.v) (l := 203) .n rfl rfl (.cons (.t rfl) (.cons (.t rfl) (.cons (.t rfl) .nil))) rfl si_92 zv_40 rfl rfl rfl <|
          q_callM (full := true) [] [(100, 204)] .n rfl .f en_50 (.cons (.t rfl) .nil) (.cons (.b (.a (.own rfl rfl rfl (take_all (by simp only [len_map, put_len] <;> rfl)) (by simp only [len_map, put_len] <;> rfl)))) .nil) (c_impl_namesOf ([base, a, b] : List (List gSetting)) (by first | omega | assumption | (simp only [List.length_append, List.length_cons, List.length_nil, List.length_replicate, put_len] at * <;> omega) | ((intro y hy; simp only [List.mem_cons, List.not_mem_nil, or_false] at hy; rcases hy with rfl | rfl | rfl <;> assumption)) | ((have hq := namesI_len (base := base) (a := a) (b := b) (by assumption) (by assumption) (by assumption); first | omega | (simp only [List.length_append, List.length_cons, List.length_nil]; omega)))) (by first | omega | assumption | (simp only [List.length_append, List.length_cons, List.length_nil, List.length_replicate, put_len] at * <;> omega) | ((intro y hy; simp only [List.mem_cons, List.not_mem_nil, or_false] at hy; rcases hy with rfl | rfl | rfl <;> assumption)) | ((have hq := namesI_len (base := base) (a := a) (b := b) (by assumption) (by assumption) (by assumption); first | omega | (simp only [List.length_append, List.length_cons, List.length_nil]; omega))))) trivial rfl rfl (fun _ => rfl) (fun _ => (hr_row (fun _ => rfl) hr_nil)) rfl <|
          q_len .n (.t rfl) rfl rfl ss_30 rfl <|
          q_move .n (.c rfl) rfl <|
          Lex.nil) ?_
      refine run_block ?_
      refine run_sub (sub_adopt (t := 8) (l := 205) (el := 65) (sz := 2) rfl rfl) ?_
      refine run_LOOP (m_impl_MergeStates_b1 base a b) _ _ _ rfl (fun (x1 : (List gSetting) × Int) => 0 ≤ x1.2 ∧ x1.2 ≤ ((m_impl_namesOf ([base, a, b] : List (List gSetting))).length : Int) ∧ (x1.1.length : Int) + 0 ≤ x1.2 + (([] : List gSetting).length : Int) ∧ (x1.1.length : Int) ≤ x1.2) (fun x1 => 0 ≤ x1.2 ∧ x1.2 ≤ ((m_impl_namesOf ([base, a, b] : List (List gSetting))).length : Int) ∧ (x1.1.length : Int) + 0 ≤ x1.2 + (([] : List gSetting).length : Int) ∧ (x1.1.length : Int) ≤ x1.2 ∧ ((m_impl_namesOf ([base, a, b] : List (List gSetting))).length : Int) ≤ x1.2) (fun x1 => (((m_impl_namesOf ([base, a, b] : List (List gSetting))).length : Int) - x1.2 : Int).toNat) (fun x1 => ⟨[(0, some (true, .sl 2 (base.map gSetting.v))), (1, some (true, .sl 2 (a.map gSetting.v))), (2, some (true, .sl 2 (b.map gSetting.v))), (8, some (true, .os 205 x1.1.length)), (37, some (true, .os 204 (m_impl_namesOf ([base, a, b] : List (List gSetting))).length)), (38, some (true, .int .i64 ((m_impl_namesOf ([base, a, b] : List (List gSetting))).length : Int))), (39, some (true, .int .i64 x1.2))], [(204, some (.row 9 1 ((m_impl_namesOf ([base, a, b] : List (List gSetting))).map V.str))), (205, some (.row 65 2 (x1.1.map gSetting.v)))]⟩) (fun x1 => ⟨[(8, some (true, .os 205 x1.1.length))], [(205, some (.row 65 2 (x1.1.map gSetting.v)))]⟩) ⟨by first | omega | assumption | (simp only [List.length_append, List.length_cons, List.length_nil, List.length_replicate, put_len] at * <;> omega) | ((intro y hy; simp only [List.mem_cons, List.not_mem_nil, or_false] at hy; rcases hy with rfl | rfl | rfl <;> assumption)) | ((have hq := namesI_len (base := base) (a := a) (b := b) (by assumption) (by assumption) (by assumption); first | omega | (simp only [List.length_append, List.length_cons, List.length_nil]; omega))), by first | omega | assumption | (simp only [List.length_append, List.length_cons, List.length_nil, List.length_replicate, put_len] at * <;> omega) | ((intro y hy; simp only [List.mem_cons, List.not_mem_nil, or_false] at hy; rcases hy with rfl | rfl | rfl <;> assumption)) | ((have hq := namesI_len (base := base) (a := a) (b := b) (by assumption) (by assumption) (by assumption); first | omega | (simp only [List.length_append, List.length_cons, List.length_nil]; omega))), by first | omega | assumption | (simp only [List.length_append, List.length_cons, List.length_nil, List.length_replicate, put_len] at * <;> omega) | ((intro y hy; simp only [List.mem_cons, List.not_mem_nil, or_false] at hy; rcases hy with rfl | rfl | rfl <;> assumption)) | ((have hq := namesI_len (base := base) (a := a) (b := b) (by assumption) (by assumption) (by assumption); first | omega | (simp only [List.length_append, List.length_cons, List.length_nil]; omega))), by first | omega | assumption | (simp only [List.length_append, List.length_cons, List.length_nil, List.length_replicate, put_len] at * <;> omega) | ((intro y hy; simp only [List.mem_cons, List.not_mem_nil, or_false] at hy; rcases hy with rfl | rfl | rfl <;> assumption)) | ((have hq := namesI_len (base := base) (a := a) (b := b) (by assumption) (by assumption) (by assumption); first | omega | (simp only [List.length_append, List.length_cons, List.length_nil]; omega)))⟩ (by first | omega | assumption | (simp only [List.length_append, List.length_cons, List.length_nil, List.length_replicate, put_len] at * <;> omega) | ((intro y hy; simp only [List.mem_cons, List.not_mem_nil, or_false] at hy; rcases hy with rfl | rfl | rfl <;> assumption)) | ((have hq := namesI_len (base := base) (a := a) (b := b) (by assumption) (by assumption) (by assumption); first | omega | (simp only [List.length_append, List.length_cons, List.length_nil]; omega)))) (sub_of [] ⟨rfl, rfl, rfl, rfl, rfl, rfl, rfl, trivial⟩ ⟨rfl, rfl, trivial⟩ rfl) ?_ ?_
      · intro x1 i14
        obtain ⟨e16, e17, e18, e19, e20⟩ := i14
        try dsimp only at *
        refine run_seq ?_
        refine run_seq ?_
        refine run_region (q_move .n (.t rfl) rfl <|
            q_len .n (.t rfl) rfl rfl ss_40 rfl <|
            q_int .n (.t rfl) (.c rfl) rfl rfl <|
            Lex.nil) ?_
        refine run_cond (.t rfl) rfl (fun h15 => ?_) (fun h15 => ?_)
        · try simp only [Bool.and_eq_true, Bool.or_eq_true, Bool.not_eq_true', Bool.and_eq_false_iff, Bool.or_eq_false_iff, Bool.not_eq_false', decide_eq_true_eq, decide_eq_false_iff_not, beq_iff_eq, bne_iff_ne, beq_eq_false_iff_ne, bne_eq_false_iff_eq, Bool.true_and, ne_eq, Decidable.not_not, Int.not_lt, Int.not_le, Nat.not_lt, Nat.not_le, strB_nil, strB_nil', strB_nnil, strB_nnil'] at h15
          refine run_seq ?_
          refine run_region (q_assign .n (.c rfl) rfl <|
              q_assign .n (.c rfl) rfl <|
              Lex.nil) ?_
          refine run_sub (sub_adopt (t := 6) (l := 210) (el := 65) (sz := 2) rfl rfl) ?_
          exact run_ret [(100, 210)] (.cons (.t rfl rfl) (.cons (.t rfl rfl) .nil)) (by first | rfl | (simp only [put_len]; rfl)) ⟨rfl, trivial⟩ rfl
        · try simp only [Bool.and_eq_true, Bool.or_eq_true, Bool.not_eq_true', Bool.and_eq_false_iff, Bool.or_eq_false_iff, Bool.not_eq_false', decide_eq_true_eq, decide_eq_false_iff_not, beq_iff_eq, bne_iff_ne, beq_eq_false_iff_ne, bne_eq_false_iff_eq, Bool.true_and, ne_eq, Decidable.not_not, Int.not_lt, Int.not_le, Nat.not_lt, Nat.not_le, strB_nil, strB_nil', strB_nnil, strB_nnil'] at h15
          refine run_skip ?_
          refine run_seq ?_
          refine run_region (q_move .n (.t rfl) rfl <|
              q_assign .n (.t rfl) rfl <|
              q_assign .n (.c rfl) rfl <|
              Lex.nil) ?_
          exact run_ret [(100, 205)] (.cons (.t rfl rfl) (.cons (.t rfl rfl) .nil)) (by first | rfl | (simp only [put_len]; rfl)) ⟨rfl, trivial⟩ rfl
      · intro rec1 k1 hk6 x1 i7
        obtain ⟨e21, e22, e23, e24⟩ := i7
        try dsimp only at *
        refine run_seq ?_
        refine run_region (q_int .n (.t rfl) (.t rfl) rfl rfl <|
            Lex.nil) ?_
        refine run_seq ?_
        refine run_cond (.t rfl) rfl (fun h8 => ?_) (fun h8 => ?_)
        · try simp only [Bool.and_eq_true, Bool.or_eq_true, Bool.not_eq_true', Bool.and_eq_false_iff, Bool.or_eq_false_iff, Bool.not_eq_false', decide_eq_true_eq, decide_eq_false_iff_not, beq_iff_eq, bne_iff_ne, beq_eq_false_iff_ne, bne_eq_false_iff_eq, Bool.true_and, ne_eq, Decidable.not_not, Int.not_lt, Int.not_le, Nat.not_lt, Nat.not_le, strB_nil, strB_nil', strB_nnil, strB_nnil'] at h8
          refine run_skip ?_
          refine run_seq ?_
          refine run_block ?_
          refine run_seq ?_
          refine run_region (q_idx_ow .n (.t rfl) (.t rfl) sl_30 (fun _ => by first | omega | assumption | (simp only [List.length_append, List.length_cons, List.length_nil, List.length_replicate, put_len] at * <;> omega) | ((intro y hy; simp only [List.mem_cons, List.not_mem_nil, or_false] at hy; rcases hy with rfl | rfl | rfl <;> assumption)) | ((have hq := namesI_len (base := base) (a := a) (b := b) (by assumption) (by assumption) (by assumption); first | omega | (simp only [List.length_append, List.length_cons, List.length_nil]; omega)))) rfl <|
              q_ld1_row .n (.t rfl) rfl (fun _ => by first | omega | assumption | (simp only [List.length_append, List.length_cons, List.length_nil, List.length_replicate, put_len] at * <;> omega) | ((intro y hy; simp only [List.mem_cons, List.not_mem_nil, or_false] at hy; rcases hy with rfl | rfl | rfl <;> assumption)) | ((have hq := namesI_len (base := base) (a := a) (b := b) (by assumption) (by assumption) (by assumption); first | omega | (simp only [List.length_append, List.length_cons, List.length_nil]; omega)))) rfl rfl rfl ic_9 rfl <|
              q_assign .n (.t rfl) rfl <|
              Lex.nil) ?_
          refine run_seq ?_
          refine run_region (q_move .n (.t rfl) rfl <|
              q_move .n (.t rfl) rfl <|
              q_call0 (full := false) .n .f en_51 (.cons (.t rfl) (.cons (.t rfl) .nil)) (.cons (.b (.a (.same rfl))) (.cons (.b (.a (.same rfl))) .nil)) (fun hg => c_impl_thingAt a (at' (m_impl_namesOf ([base, a, b] : List (List gSetting))) x1.2)) rfl (fun h => Bool.noConfusion h) rfl <|
              q_alloc (l := 207) .n rfl zv_70 rfl rfl <|
              q_st_boxm [.int .i64 (m_impl_thingAt a (at' (m_impl_namesOf ([base, a, b] : List (List gSetting))) x1.2)).value, .bool (m_impl_thingAt a (at' (m_impl_namesOf ([base, a, b] : List (List gSetting))) x1.2)).there] .n rfl (.t rfl) (.t rfl) rfl ts_70 rfl rfl <|
              Lex.nil) ?_
          refine run_seq ?_
          refine run_seq ?_
          refine run_draw fmo (q_ldN_ow .n (.t rfl) rfl (.inr rfl) ag_70 (fun _ => rfl) rfl rfl <|
              q_move .n (.t rfl) rfl <|
              q_move .n (.t rfl) rfl <|
              q_call0 (full := false) .n .f en_51 (.cons (.t rfl) (.cons (.t rfl) .nil)) (.cons (.b (.a (.same rfl))) (.cons (.b (.a (.same rfl))) .nil)) (fun hg => c_impl_thingAt base (at' (m_impl_namesOf ([base, a, b] : List (List gSetting))) x1.2)) rfl (fun h => Bool.noConfusion h) rfl <|
              q_steq ((((m_impl_thingAt a (at' (m_impl_namesOf ([base, a, b] : List (List gSetting))) x1.2)).value == (m_impl_thingAt base (at' (m_impl_namesOf ([base, a, b] : List (List gSetting))) x1.2)).value) && (((m_impl_thingAt a (at' (m_impl_namesOf ([base, a, b] : List (List gSetting))) x1.2)).there == (m_impl_thingAt base (at' (m_impl_namesOf ([base, a, b] : List (List gSetting))) x1.2)).there) && true))) .n (.t rfl) (.t rfl) (by kernel_rfl) rfl rfl <|
              Lex.nil) (by kernel_rfl) ?_
          refine run_join _ _ rfl (fun v9 : Int × Bool => True) (fun v9 => ⟨[(0, some (true, .sl 2 (base.map gSetting.v))), (1, some (true, .sl 2 (a.map gSetting.v))), (2, some (true, .sl 2 (b.map gSetting.v))), (8, some (true, .os 205 x1.1.length)), (10, some (true, .str (at' (m_impl_namesOf ([base, a, b] : List (List gSetting))) x1.2))), (11, some (true, .op 207 0 0 0)), (37, some (true, .os 204 (m_impl_namesOf ([base, a, b] : List (List gSetting))).length)), (38, some (true, .int .i64 ((m_impl_namesOf ([base, a, b] : List (List gSetting))).length : Int))), (39, some (true, .int .i64 x1.2))], [(204, some (.row 9 1 ((m_impl_namesOf ([base, a, b] : List (List gSetting))).map V.str))), (205, some (.row 65 2 (x1.1.map gSetting.v))), (207, some (.box 70 [.int .i64 v9.1, .bool v9.2]))]⟩) (fun v9 _ => ?_) (fun j10 hj11 => ?_)
          · refine run_seq ?_
            refine run_region (q_fld_ow .n (.t rfl) fo_70_1 rfl <|
                q_ld1_ow .n (.t rfl) rfl (.inr rfl) (fun _ => rfl) rfl ic_4 rfl <|
                Lex.nil) ?_
            refine run_cond (.t rfl) rfl (fun h13 => ?_) (fun h13 => ?_)
            · try simp only [Bool.and_eq_true, Bool.or_eq_true, Bool.not_eq_true', Bool.and_eq_false_iff, Bool.or_eq_false_iff, Bool.not_eq_false', decide_eq_true_eq, decide_eq_false_iff_not, beq_iff_eq, bne_iff_ne, beq_eq_false_iff_ne, bne_eq_false_iff_eq, Bool.true_and, ne_eq, Decidable.not_not, Int.not_lt, Int.not_le, Nat.not_lt, Nat.not_le, strB_nil, strB_nil', strB_nnil, strB_nnil'] at h13
              refine run_region (q_move .n (.t rfl) rfl <|
                  q_move .n (.t rfl) rfl <|
                  q_fld_ow .n (.t rfl) fo_70_0 rfl <|
                  q_ld1_ow .n (.t rfl) rfl (.inr rfl) (fun _ => rfl) rfl ic_2 rfl <|
                  q_build (us := [.str (at' (m_impl_namesOf ([base, a, b] : List (List gSetting))) x1.2), .int .i64 v9.1]) .n (.cons (.t rfl) (.cons (.t rfl) .nil)) zv_65 pl_65 rfl rfl rfl <|
                  q_bslicem ([gSetting.mk (at' (m_impl_namesOf ([base, a, b] : List (List gSetting))) x1.2) v9.1] : List gSetting) (f := gSetting.v) (l := 208) .n rfl rfl (.cons (.t rfl) .nil) rfl si_40 zv_65 rfl rfl rfl <|
                  q_appm (xs := x1.1) (ys := ([gSetting.mk (at' (m_impl_namesOf ([base, a, b] : List (List gSetting))) x1.2) v9.1] : List gSetting)) (f := gSetting.v) (l := 209) .n rfl (.ow (.t rfl) rfl (take_all (by simp only [len_map, put_len] <;> rfl)) (by simp only [len_map, put_len] <;> rfl)) (.ow (.t rfl) rfl (take_all (by simp only [len_map, put_len] <;> rfl)) (by simp only [len_map, put_len] <;> rfl)) si_40 zv_65 rfl (by first | omega | assumption | (simp only [List.length_append, List.length_cons, List.length_nil, List.length_replicate, put_len] at * <;> omega) | ((intro y hy; simp only [List.mem_cons, List.not_mem_nil, or_false] at hy; rcases hy with rfl | rfl | rfl <;> assumption)) | ((have hq := namesI_len (base := base) (a := a) (b := b) (by assumption) (by assumption) (by assumption); first | omega | (simp only [List.length_append, List.length_cons, List.length_nil]; omega)))) rfl rfl <|
                  q_assign .n (.t rfl) rfl <|
                  Lex.nil) ?_
              refine run_endB ?_
              refine run_region (q_add .n (.t rfl) (.c rfl) (fun _ => by first | omega | assumption | (simp only [List.length_append, List.length_cons, List.length_nil, List.length_replicate, put_len] at * <;> omega) | ((intro y hy; simp only [List.mem_cons, List.not_mem_nil, or_false] at hy; rcases hy with rfl | rfl | rfl <;> assumption)) | ((have hq := namesI_len (base := base) (a := a) (b := b) (by assumption) (by assumption) (by assumption); first | omega | (simp only [List.length_append, List.length_cons, List.length_nil]; omega)))) rfl <|
                  q_move .n (.t rfl) rfl <|
                  Lex.nil) ?_
              exact run_again (x1.1 ++ ([gSetting.mk (at' (m_impl_namesOf ([base, a, b] : List (List gSetting))) x1.2) v9.1] : List gSetting), x1.2 + 1) ⟨by first | omega | assumption | (simp only [List.length_append, List.length_cons, List.length_nil, List.length_replicate, put_len] at * <;> omega) | ((intro y hy; simp only [List.mem_cons, List.not_mem_nil, or_false] at hy; rcases hy with rfl | rfl | rfl <;> assumption)) | ((have hq := namesI_len (base := base) (a := a) (b := b) (by assumption) (by assumption) (by assumption); first | omega | (simp only [List.length_append, List.length_cons, List.length_nil]; omega))), by first | omega | assumption | (simp only [List.length_append, List.length_cons, List.length_nil, List.length_replicate, put_len] at * <;> omega) | ((intro y hy; simp only [List.mem_cons, List.not_mem_nil, or_false] at hy; rcases hy with rfl | rfl | rfl <;> assumption)) | ((have hq := namesI_len (base := base) (a := a) (b := b) (by assumption) (by assumption) (by assumption); first | omega | (simp only [List.length_append, List.length_cons, List.length_nil]; omega))), by first | omega | assumption | (simp only [List.length_append, List.length_cons, List.length_nil, List.length_replicate, put_len] at * <;> omega) | ((intro y hy; simp only [List.mem_cons, List.not_mem_nil, or_false] at hy; rcases hy with rfl | rfl | rfl <;> assumption)) | ((have hq := namesI_len (base := base) (a := a) (b := b) (by assumption) (by assumption) (by assumption); first | omega | (simp only [List.length_append, List.length_cons, List.length_nil]; omega))), by first | omega | assumption | (simp only [List.length_append, List.length_cons, List.length_nil, List.length_replicate, put_len] at * <;> omega) | ((intro y hy; simp only [List.mem_cons, List.not_mem_nil, or_false] at hy; rcases hy with rfl | rfl | rfl <;> assumption)) | ((have hq := namesI_len (base := base) (a := a) (b := b) (by assumption) (by assumption) (by assumption); first | omega | (simp only [List.length_append, List.length_cons, List.length_nil]; omega)))⟩ (by first | omega | assumption | (simp only [List.length_append, List.length_cons, List.length_nil, List.length_replicate, put_len] at * <;> omega) | ((intro y hy; simp only [List.mem_cons, List.not_mem_nil, or_false] at hy; rcases hy with rfl | rfl | rfl <;> assumption)) | ((have hq := namesI_len (base := base) (a := a) (b := b) (by assumption) (by assumption) (by assumption); first | omega | (simp only [List.length_append, List.length_cons, List.length_nil]; omega)))) (sub_of [(205, 209)] ⟨rfl, rfl, rfl, rfl, rfl, rfl, rfl, trivial⟩ ⟨rfl, rfl, trivial⟩ rfl)
            · try simp only [Bool.and_eq_true, Bool.or_eq_true, Bool.not_eq_true', Bool.and_eq_false_iff, Bool.or_eq_false_iff, Bool.not_eq_false', decide_eq_true_eq, decide_eq_false_iff_not, beq_iff_eq, bne_iff_ne, beq_eq_false_iff_ne, bne_eq_false_iff_eq, Bool.true_and, ne_eq, Decidable.not_not, Int.not_lt, Int.not_le, Nat.not_lt, Nat.not_le, strB_nil, strB_nil', strB_nnil, strB_nnil'] at h13
              refine run_skip ?_
              refine run_endB ?_
              refine run_region (q_add .n (.t rfl) (.c rfl) (fun _ => by first | omega | assumption | (simp only [List.length_append, List.length_cons, List.length_nil, List.length_replicate, put_len] at * <;> omega) | ((intro y hy; simp only [List.mem_cons, List.not_mem_nil, or_false] at hy; rcases hy with rfl | rfl | rfl <;> assumption)) | ((have hq := namesI_len (base := base) (a := a) (b := b) (by assumption) (by assumption) (by assumption); first | omega | (simp only [List.length_append, List.length_cons, List.length_nil]; omega)))) rfl <|
                  q_move .n (.t rfl) rfl <|
                  Lex.nil) ?_
              exact run_again (x1.1, x1.2 + 1) ⟨by first | omega | assumption | (simp only [List.length_append, List.length_cons, List.length_nil, List.length_replicate, put_len] at * <;> omega) | ((intro y hy; simp only [List.mem_cons, List.not_mem_nil, or_false] at hy; rcases hy with rfl | rfl | rfl <;> assumption)) | ((have hq := namesI_len (base := base) (a := a) (b := b) (by assumption) (by assumption) (by assumption); first | omega | (simp only [List.length_append, List.length_cons, List.length_nil]; omega))), by first | omega | assumption | (simp only [List.length_append, List.length_cons, List.length_nil, List.length_replicate, put_len] at * <;> omega) | ((intro y hy; simp only [List.mem_cons, List.not_mem_nil, or_false] at hy; rcases hy with rfl | rfl | rfl <;> assumption)) | ((have hq := namesI_len (base := base) (a := a) (b := b) (by assumption) (by assumption) (by assumption); first | omega | (simp only [List.length_append, List.length_cons, List.length_nil]; omega))), by first | omega | assumption | (simp only [List.length_append, List.length_cons, List.length_nil, List.length_replicate, put_len] at * <;> omega) | ((intro y hy; simp only [List.mem_cons, List.not_mem_nil, or_false] at hy; rcases hy with rfl | rfl | rfl <;> assumption)) | ((have hq := namesI_len (base := base) (a := a) (b := b) (by assumption) (by assumption) (by assumption); first | omega | (simp only [List.length_append, List.length_cons, List.length_nil]; omega))), by first | omega | assumption | (simp only [List.length_append, List.length_cons, List.length_nil, List.length_replicate, put_len] at * <;> omega) | ((intro y hy; simp only [List.mem_cons, List.not_mem_nil, or_false] at hy; rcases hy with rfl | rfl | rfl <;> assumption)) | ((have hq := namesI_len (base := base) (a := a) (b := b) (by assumption) (by assumption) (by assumption); first | omega | (simp only [List.length_append, List.length_cons, List.length_nil]; omega)))⟩ (by first | omega | assumption | (simp only [List.length_append, List.length_cons, List.length_nil, List.length_replicate, put_len] at * <;> omega) | ((intro y hy; simp only [List.mem_cons, List.not_mem_nil, or_false] at hy; rcases hy with rfl | rfl | rfl <;> assumption)) | ((have hq := namesI_len (base := base) (a := a) (b := b) (by assumption) (by assumption) (by assumption); first | omega | (simp only [List.length_append, List.length_cons, List.length_nil]; omega)))) (sub_of [] ⟨rfl, rfl, rfl, rfl, rfl, rfl, rfl, trivial⟩ ⟨rfl, rfl, trivial⟩ rfl)
          · refine run_cond (.t rfl) rfl (fun h12 => ?_) (fun h12 => ?_)
            · try simp only [Bool.and_eq_true, Bool.or_eq_true, Bool.not_eq_true', Bool.and_eq_false_iff, Bool.or_eq_false_iff, Bool.not_eq_false', decide_eq_true_eq, decide_eq_false_iff_not, beq_iff_eq, bne_iff_ne, beq_eq_false_iff_ne, bne_eq_false_iff_eq, Bool.true_and, ne_eq, Decidable.not_not, Int.not_lt, Int.not_le, Nat.not_lt, Nat.not_le, strB_nil, strB_nil', strB_nnil, strB_nnil'] at h12
              refine run_region (q_move .n (.t rfl) rfl <|
                  q_move .n (.t rfl) rfl <|
                  q_call0 (full := false) .n .f en_51 (.cons (.t rfl) (.cons (.t rfl) .nil)) (.cons (.b (.a (.same rfl))) (.cons (.b (.a (.same rfl))) .nil)) (fun hg => c_impl_thingAt b (at' (m_impl_namesOf ([base, a, b] : List (List gSetting))) x1.2)) rfl (fun h => Bool.noConfusion h) rfl <|
                  q_st_boxm [.int .i64 (m_impl_thingAt b (at' (m_impl_namesOf ([base, a, b] : List (List gSetting))) x1.2)).value, .bool (m_impl_thingAt b (at' (m_impl_namesOf ([base, a, b] : List (List gSetting))) x1.2)).there] .n rfl (.t rfl) (.t rfl) rfl ts_70 rfl rfl <|
                  Lex.nil) ?_
              exact run_cont hj11 ((m_impl_thingAt b (at' (m_impl_namesOf ([base, a, b] : List (List gSetting))) x1.2)).value, (m_impl_thingAt b (at' (m_impl_namesOf ([base, a, b] : List (List gSetting))) x1.2)).there) trivial (sub_of [] ⟨rfl, rfl, rfl, rfl, rfl, rfl, rfl, rfl, rfl, trivial⟩ ⟨rfl, rfl, rfl, trivial⟩ rfl)
            · try simp only [Bool.and_eq_true, Bool.or_eq_true, Bool.not_eq_true', Bool.and_eq_false_iff, Bool.or_eq_false_iff, Bool.not_eq_false', decide_eq_true_eq, decide_eq_false_iff_not, beq_iff_eq, bne_iff_ne, beq_eq_false_iff_ne, bne_eq_false_iff_eq, Bool.true_and, ne_eq, Decidable.not_not, Int.not_lt, Int.not_le, Nat.not_lt, Nat.not_le, strB_nil, strB_nil', strB_nnil, strB_nnil'] at h12
              refine run_skip ?_
              exact run_cont hj11 ((m_impl_thingAt a (at' (m_impl_namesOf ([base, a, b] : List (List gSetting))) x1.2)).value, (m_impl_thingAt a (at' (m_impl_namesOf ([base, a, b] : List (List gSetting))) x1.2)).there) trivial (sub_of [] ⟨rfl, rfl, rfl, rfl, rfl, rfl, rfl, rfl, rfl, trivial⟩ ⟨rfl, rfl, rfl, trivial⟩ rfl)
        · try simp only [Bool.and_eq_true, Bool.or_eq_true, Bool.not_eq_true', Bool.and_eq_false_iff, Bool.or_eq_false_iff, Bool.not_eq_false', decide_eq_true_eq, decide_eq_false_iff_not, beq_iff_eq, bne_iff_ne, beq_eq_false_iff_ne, bne_eq_false_iff_eq, Bool.true_and, ne_eq, Decidable.not_not, Int.not_lt, Int.not_le, Nat.not_lt, Nat.not_le, strB_nil, strB_nil', strB_nnil, strB_nnil'] at h8
          refine run_exit rfl ?_
          exact run_cont hk6 (x1.1, x1.2) ⟨by first | omega | assumption | (simp only [List.length_append, List.length_cons, List.length_nil, List.length_replicate, put_len] at * <;> omega) | ((intro y hy; simp only [List.mem_cons, List.not_mem_nil, or_false] at hy; rcases hy with rfl | rfl | rfl <;> assumption)) | ((have hq := namesI_len (base := base) (a := a) (b := b) (by assumption) (by assumption) (by assumption); first | omega | (simp only [List.length_append, List.length_cons, List.length_nil]; omega))), by first | omega | assumption | (simp only [List.length_append, List.length_cons, List.length_nil, List.length_replicate, put_len] at * <;> omega) | ((intro y hy; simp only [List.mem_cons, List.not_mem_nil, or_false] at hy; rcases hy with rfl | rfl | rfl <;> assumption)) | ((have hq := namesI_len (base := base) (a := a) (b := b) (by assumption) (by assumption) (by assumption); first | omega | (simp only [List.length_append, List.length_cons, List.length_nil]; omega))), by first | omega | assumption | (simp only [List.length_append, List.length_cons, List.length_nil, List.length_replicate, put_len] at * <;> omega) | ((intro y hy; simp only [List.mem_cons, List.not_mem_nil, or_false] at hy; rcases hy with rfl | rfl | rfl <;> assumption)) | ((have hq := namesI_len (base := base) (a := a) (b := b) (by assumption) (by assumption) (by assumption); first | omega | (simp only [List.length_append, List.length_cons, List.length_nil]; omega))), by first | omega | assumption | (simp only [List.length_append, List.length_cons, List.length_nil, List.length_replicate, put_len] at * <;> omega) | ((intro y hy; simp only [List.mem_cons, List.not_mem_nil, or_false] at hy; rcases hy with rfl | rfl | rfl <;> assumption)) | ((have hq := namesI_len (base := base) (a := a) (b := b) (by assumption) (by assumption) (by assumption); first | omega | (simp only [List.length_append, List.length_cons, List.length_nil]; omega))), by first | omega | assumption | (simp only [List.length_append, List.length_cons, List.length_nil, List.length_replicate, put_len] at * <;> omega) | ((intro y hy; simp only [List.mem_cons, List.not_mem_nil, or_false] at hy; rcases hy with rfl | rfl | rfl <;> assumption)) | ((have hq := namesI_len (base := base) (a := a) (b := b) (by assumption) (by assumption) (by assumption); first | omega | (simp only [List.length_append, List.length_cons, List.length_nil]; omega)))⟩ (sub_of [] ⟨rfl, trivial⟩ ⟨rfl, trivial⟩ rfl)

/-! ### laws_heldSettingS -/
theorem c_laws_heldSettingS (a : List gSetting) (k_ : Int) (hp1 : k_ ≤ 9223372036854775807) : Con Try.prog 27 [.sl 2 (a.map gSetting.v), .int .i64 k_] [] (.int .i64 (m_laws_heldSettingS a k_)) ([]) := by
  refine con_intro (out := fun r : Int => ((.int .i64 r : V), ([] : List (Nat × Option O)))) (r := (m_laws_heldSettingS a k_)) Try.func27 rfl Try.ntmps27 rfl ?_
  refine run_fact (t := 0) rfl fun hl => ?_
  have l1 := hl; clear hl; simp only [List.length_map] at l1
  refine run_seq ?_
  refine run_region (q_assign .n (.c rfl) rfl <|
      Lex.nil) ?_
  refine run_seq ?_
  refine run_seq ?_
  refine run_region (q_assign .n (.c rfl) rfl <|
      Lex.nil) ?_
  refine run_block ?_
  refine run_LOOP (m_laws_heldSettingS_b1 a k_) _ _ _ rfl (fun (x1 : Int × Int) => 0 ≤ x1.2 ∧ x1.2 ≤ (a.length : Int) ∧ x1.1 ≤ 9223372036854775807) (fun x1 => 0 ≤ x1.2 ∧ x1.2 ≤ (a.length : Int) ∧ x1.1 ≤ 9223372036854775807 ∧ (a.length : Int) ≤ x1.2) (fun x1 => ((a.length : Int) - x1.2 : Int).toNat) (fun x1 => ⟨[(0, some (true, .sl 2 (a.map gSetting.v))), (1, some (true, .int .i64 x1.1)), (5, some (true, .int .i64 x1.2))], []⟩) (fun x1 => ⟨[(1, some (true, .int .i64 x1.1))], []⟩) ⟨by first | omega | assumption | (simp only [List.length_append, List.length_cons, List.length_nil, List.length_replicate, put_len] at * <;> omega) | (exact wr64_le) | ((have hw := wr64_le (n := x1.1 + 1); have hw2 := wr64_le (n := (IntKind.wrap .i64 (x1.1 + 1)) + 1); omega)), by first | omega | assumption | (simp only [List.length_append, List.length_cons, List.length_nil, List.length_replicate, put_len] at * <;> omega) | (exact wr64_le) | ((have hw := wr64_le (n := x1.1 + 1); have hw2 := wr64_le (n := (IntKind.wrap .i64 (x1.1 + 1)) + 1); omega)), by first | omega | assumption | (simp only [List.length_append, List.length_cons, List.length_nil, List.length_replicate, put_len] at * <;> omega) | (exact wr64_le) | ((have hw := wr64_le (n := x1.1 + 1); have hw2 := wr64_le (n := (IntKind.wrap .i64 (x1.1 + 1)) + 1); omega))⟩ (by first | omega | assumption | (simp only [List.length_append, List.length_cons, List.length_nil, List.length_replicate, put_len] at * <;> omega) | (exact wr64_le) | ((have hw := wr64_le (n := x1.1 + 1); have hw2 := wr64_le (n := (IntKind.wrap .i64 (x1.1 + 1)) + 1); omega))) (sub_of [] ⟨rfl, rfl, rfl, trivial⟩ trivial rfl) ?_ ?_
  · intro x1 i7
    obtain ⟨e8, e9, e10, e11⟩ := i7
    try dsimp only at *
    refine run_seq ?_
    refine run_region (q_move .n (.t rfl) rfl <|
        q_assign .n (.t rfl) rfl <|
        Lex.nil) ?_
    exact run_ret [] (.cons (.t rfl rfl) .nil) rfl trivial rfl
  · intro rec1 k1 hk2 x1 i3
    obtain ⟨e12, e13, e14⟩ := i3
    try dsimp only at *
    refine run_seq ?_
    refine run_seq ?_
    refine run_region (q_move .n (.t rfl) rfl <|
        q_move .n (.t rfl) rfl <|
        q_len .n (.t rfl) rfl len_map ss_40 rfl <|
        q_int .n (.t rfl) (.t rfl) rfl rfl <|
        Lex.nil) ?_
    refine run_cond (.t rfl) rfl (fun h4 => ?_) (fun h4 => ?_)
    · try simp only [Bool.and_eq_true, Bool.or_eq_true, Bool.not_eq_true', Bool.and_eq_false_iff, Bool.or_eq_false_iff, Bool.not_eq_false', decide_eq_true_eq, decide_eq_false_iff_not, beq_iff_eq, bne_iff_ne, beq_eq_false_iff_ne, bne_eq_false_iff_eq, Bool.true_and, ne_eq, Decidable.not_not, Int.not_lt, Int.not_le, Nat.not_lt, Nat.not_le, strB_nil, strB_nil', strB_nnil, strB_nnil'] at h4
      refine run_skip ?_
      refine run_seq ?_
      refine run_block ?_
      refine run_seq ?_
      refine run_seq ?_
      refine run_draw fmo (q_move .n (.t rfl) rfl <|
          q_move .n (.t rfl) rfl <|
          q_idx_rm .n (.t rfl) (.t rfl) sl_40 (fun _ => by first | omega | assumption | (simp only [List.length_append, List.length_cons, List.length_nil, List.length_replicate, put_len] at * <;> omega) | (exact wr64_le) | ((have hw := wr64_le (n := x1.1 + 1); have hw2 := wr64_le (n := (IntKind.wrap .i64 (x1.1 + 1)) + 1); omega))) rfl <|
          q_fld_ro .n (.t rfl) fo_65_0 rfl <|
          q_ld1_ro .n (.t rfl) rfl ic_9 rfl <|
          q_move .n (.t rfl) rfl <|
          q_call0 (full := false) .n .f en_41 (.cons (.t rfl) .nil) (.cons (.b (.a (.same rfl))) .nil) (fun hg => c_laws_markText x1.1 (by first | omega | assumption | (simp only [List.length_append, List.length_cons, List.length_nil, List.length_replicate, put_len] at * <;> omega) | (exact wr64_le) | ((have hw := wr64_le (n := x1.1 + 1); have hw2 := wr64_le (n := (IntKind.wrap .i64 (x1.1 + 1)) + 1); omega)))) rfl (fun h => Bool.noConfusion h) rfl <|
          q_strcmp .n (.t rfl) (.t rfl) rfl rfl <|
          Lex.nil) (by kernel_rfl) ?_
      refine run_cond (.t rfl) rfl (fun h5 => ?_) (fun h5 => ?_)
      · try simp only [Bool.and_eq_true, Bool.or_eq_true, Bool.not_eq_true', Bool.and_eq_false_iff, Bool.or_eq_false_iff, Bool.not_eq_false', decide_eq_true_eq, decide_eq_false_iff_not, beq_iff_eq, bne_iff_ne, beq_eq_false_iff_ne, bne_eq_false_iff_eq, Bool.true_and, ne_eq, Decidable.not_not, Int.not_lt, Int.not_le, Nat.not_lt, Nat.not_le, strB_nil, strB_nil', strB_nnil, strB_nnil'] at h5
        refine run_seq ?_
        refine run_region (q_assign .n (.c rfl) rfl <|
            Lex.nil) ?_
        exact run_ret [] (.cons (.t rfl rfl) .nil) rfl trivial rfl
      · try simp only [Bool.and_eq_true, Bool.or_eq_true, Bool.not_eq_true', Bool.and_eq_false_iff, Bool.or_eq_false_iff, Bool.not_eq_false', decide_eq_true_eq, decide_eq_false_iff_not, beq_iff_eq, bne_iff_ne, beq_eq_false_iff_ne, bne_eq_false_iff_eq, Bool.true_and, ne_eq, Decidable.not_not, Int.not_lt, Int.not_le, Nat.not_lt, Nat.not_le, strB_nil, strB_nil', strB_nnil, strB_nnil'] at h5
        refine run_skip ?_
        refine run_seq ?_
        refine run_region (q_move .n (.t rfl) rfl <|
            q_int .n (.t rfl) (.c rfl) rfl rfl <|
            q_assign .n (.t rfl) rfl <|
            Lex.nil) ?_
        refine run_seq ?_
        refine run_seq ?_
        refine run_region (q_move .n (.t rfl) rfl <|
            q_move .n (.t rfl) rfl <|
            q_idx_rm .n (.t rfl) (.t rfl) sl_40 (fun _ => by first | omega | assumption | (simp only [List.length_append, List.length_cons, List.length_nil, List.length_replicate, put_len] at * <;> omega) | (exact wr64_le) | ((have hw := wr64_le (n := x1.1 + 1); have hw2 := wr64_le (n := (IntKind.wrap .i64 (x1.1 + 1)) + 1); omega))) rfl <|
            q_fld_ro .n (.t rfl) fo_65_1 rfl <|
            q_ld1_ro .n (.t rfl) rfl ic_2 rfl <|
            q_move .n (.t rfl) rfl <|
            q_int .n (.t rfl) (.t rfl) rfl rfl <|
            Lex.nil) ?_
        refine run_cond (.t rfl) rfl (fun h6 => ?_) (fun h6 => ?_)
        · try simp only [Bool.and_eq_true, Bool.or_eq_true, Bool.not_eq_true', Bool.and_eq_false_iff, Bool.or_eq_false_iff, Bool.not_eq_false', decide_eq_true_eq, decide_eq_false_iff_not, beq_iff_eq, bne_iff_ne, beq_eq_false_iff_ne, bne_eq_false_iff_eq, Bool.true_and, ne_eq, Decidable.not_not, Int.not_lt, Int.not_le, Nat.not_lt, Nat.not_le, strB_nil, strB_nil', strB_nnil, strB_nnil'] at h6
          refine run_seq ?_
          refine run_region (q_assign .n (.c rfl) rfl <|
              Lex.nil) ?_
          exact run_ret [] (.cons (.t rfl rfl) .nil) rfl trivial rfl
        · try simp only [Bool.and_eq_true, Bool.or_eq_true, Bool.not_eq_true', Bool.and_eq_false_iff, Bool.or_eq_false_iff, Bool.not_eq_false', decide_eq_true_eq, decide_eq_false_iff_not, beq_iff_eq, bne_iff_ne, beq_eq_false_iff_ne, bne_eq_false_iff_eq, Bool.true_and, ne_eq, Decidable.not_not, Int.not_lt, Int.not_le, Nat.not_lt, Nat.not_le, strB_nil, strB_nil', strB_nnil, strB_nnil'] at h6
          refine run_skip ?_
          refine run_region (q_move .n (.t rfl) rfl <|
              q_int .n (.t rfl) (.c rfl) rfl rfl <|
              q_assign .n (.t rfl) rfl <|
              Lex.nil) ?_
          refine run_endB ?_
          refine run_region (q_move .n (.t rfl) rfl <|
              q_add .n (.t rfl) (.c rfl) (fun _ => by first | omega | assumption | (simp only [List.length_append, List.length_cons, List.length_nil, List.length_replicate, put_len] at * <;> omega) | (exact wr64_le) | ((have hw := wr64_le (n := x1.1 + 1); have hw2 := wr64_le (n := (IntKind.wrap .i64 (x1.1 + 1)) + 1); omega))) rfl <|
              q_assign .n (.t rfl) rfl <|
              Lex.nil) ?_
          exact run_again (IntKind.wrap .i64 ((IntKind.wrap .i64 (x1.1 + 1)) + 1), x1.2 + 1) ⟨by first | omega | assumption | (simp only [List.length_append, List.length_cons, List.length_nil, List.length_replicate, put_len] at * <;> omega) | (exact wr64_le) | ((have hw := wr64_le (n := x1.1 + 1); have hw2 := wr64_le (n := (IntKind.wrap .i64 (x1.1 + 1)) + 1); omega)), by first | omega | assumption | (simp only [List.length_append, List.length_cons, List.length_nil, List.length_replicate, put_len] at * <;> omega) | (exact wr64_le) | ((have hw := wr64_le (n := x1.1 + 1); have hw2 := wr64_le (n := (IntKind.wrap .i64 (x1.1 + 1)) + 1); omega)), by first | omega | assumption | (simp only [List.length_append, List.length_cons, List.length_nil, List.length_replicate, put_len] at * <;> omega) | (exact wr64_le) | ((have hw := wr64_le (n := x1.1 + 1); have hw2 := wr64_le (n := (IntKind.wrap .i64 (x1.1 + 1)) + 1); omega))⟩ (by first | omega | assumption | (simp only [List.length_append, List.length_cons, List.length_nil, List.length_replicate, put_len] at * <;> omega) | (exact wr64_le) | ((have hw := wr64_le (n := x1.1 + 1); have hw2 := wr64_le (n := (IntKind.wrap .i64 (x1.1 + 1)) + 1); omega))) (sub_of [] ⟨rfl, rfl, rfl, trivial⟩ trivial rfl)
    · try simp only [Bool.and_eq_true, Bool.or_eq_true, Bool.not_eq_true', Bool.and_eq_false_iff, Bool.or_eq_false_iff, Bool.not_eq_false', decide_eq_true_eq, decide_eq_false_iff_not, beq_iff_eq, bne_iff_ne, beq_eq_false_iff_ne, bne_eq_false_iff_eq, Bool.true_and, ne_eq, Decidable.not_not, Int.not_lt, Int.not_le, Nat.not_lt, Nat.not_le, strB_nil, strB_nil', strB_nnil, strB_nnil'] at h4
      refine run_exit rfl ?_
      exact run_cont hk2 (x1.1, x1.2) ⟨by first | omega | assumption | (simp only [List.length_append, List.length_cons, List.length_nil, List.length_replicate, put_len] at * <;> omega) | (exact wr64_le) | ((have hw := wr64_le (n := x1.1 + 1); have hw2 := wr64_le (n := (IntKind.wrap .i64 (x1.1 + 1)) + 1); omega)), by first | omega | assumption | (simp only [List.length_append, List.length_cons, List.length_nil, List.length_replicate, put_len] at * <;> omega) | (exact wr64_le) | ((have hw := wr64_le (n := x1.1 + 1); have hw2 := wr64_le (n := (IntKind.wrap .i64 (x1.1 + 1)) + 1); omega)), by first | omega | assumption | (simp only [List.length_append, List.length_cons, List.length_nil, List.length_replicate, put_len] at * <;> omega) | (exact wr64_le) | ((have hw := wr64_le (n := x1.1 + 1); have hw2 := wr64_le (n := (IntKind.wrap .i64 (x1.1 + 1)) + 1); omega)), by first | omega | assumption | (simp only [List.length_append, List.length_cons, List.length_nil, List.length_replicate, put_len] at * <;> omega) | (exact wr64_le) | ((have hw := wr64_le (n := x1.1 + 1); have hw2 := wr64_le (n := (IntKind.wrap .i64 (x1.1 + 1)) + 1); omega))⟩ (sub_of [] ⟨rfl, trivial⟩ trivial rfl)

/-! ### laws_FnExactMergeStates -/
set_option maxRecDepth 100000 in
set_option maxHeartbeats 4000000 in
theorem c_laws_FnExactMergeStates (aBase : List gSetting) (aA : List gSetting) (aB : List gSetting) (hp1 : aBase.length ≤ 9223372036854775807 ∧ ∀ y ∈ aBase, gSetting.ok y) (hp2 : aA.length ≤ 9223372036854775807 ∧ ∀ y ∈ aA, gSetting.ok y) (hp3 : aB.length ≤ 9223372036854775807 ∧ ∀ y ∈ aB, gSetting.ok y) : Con Try.prog 6 [.sl 2 (aBase.map gSetting.v), .sl 2 (aA.map gSetting.v), .sl 2 (aB.map gSetting.v)] [] (.bool (m_laws_FnExactMergeStates aBase aA aB)) ([]) := by
  refine con_intro (out := fun r : Bool => ((.bool r : V), ([] : List (Nat × Option O)))) (r := (m_laws_FnExactMergeStates aBase aA aB)) Try.func6 rfl Try.ntmps6 rfl ?_
  refine run_fact (t := 0) rfl fun hl => ?_
  have l1 := hl; clear hl; simp only [List.length_map] at l1
  refine run_fact (t := 1) rfl fun hl => ?_
  have l2 := hl; clear hl; simp only [List.length_map] at l2
  refine run_fact (t := 2) rfl fun hl => ?_
  have l3 := hl; clear hl; simp only [List.length_map] at l3
  refine run_seq ?_
  refine run_region (q_assign .n (.c rfl) rfl <|
      Lex.nil) ?_
  refine run_seq ?_
  refine run_region (q_assign .n (.c rfl) rfl <|
      Lex.nil) ?_
  refine run_seq ?_
  refine run_region (q_move .n (.t rfl) rfl <|
      q_move .n (.t rfl) rfl <|
      q_call0 (full := false) .n .f en_19 (.cons (.t rfl) (.cons (.t rfl) .nil)) (.cons (.b (.a (.same rfl))) (.cons (.b (.a (.same rfl))) .nil)) (fun hg => c_laws_szSettingS aBase 1048576) rfl (fun h => Bool.noConfusion h) rfl <|
      q_assign .n (.t rfl) rfl <|
      Lex.nil) ?_
  refine run_seq ?_
  refine run_seq ?_
  refine run_region (q_move .n (.t rfl) rfl <|
      q_int .n (.t rfl) (.c rfl) rfl rfl <|
      Lex.nil) ?_
  refine run_cond (.t rfl) rfl (fun h4 => ?_) (fun h4 => ?_)
  · try simp only [Bool.and_eq_true, Bool.or_eq_true, Bool.not_eq_true', Bool.and_eq_false_iff, Bool.or_eq_false_iff, Bool.not_eq_false', decide_eq_true_eq, decide_eq_false_iff_not, beq_iff_eq, bne_iff_ne, beq_eq_false_iff_ne, bne_eq_false_iff_eq, Bool.true_and, ne_eq, Decidable.not_not, Int.not_lt, Int.not_le, Nat.not_lt, Nat.not_le, strB_nil, strB_nil', strB_nnil, strB_nnil'] at h4
    try have hf0h4 := szSettingS_impA (by assumption) (by omega) (by omega) h4
    try have hf1h4 := szSettingS_impA (by assumption) (by omega) (by omega) h4.1
    try have hf2h4 := szSettingS_impA (by assumption) (by omega) (by omega) h4.2
    try have hf3h4 := szSettingS_impA (by assumption) (by omega) (by omega) h4.1.1
    try have hf4h4 := szSettingS_impA (by assumption) (by omega) (by omega) h4.1.2
    try have hf5h4 := szSettingS_impA (by assumption) (by omega) (by omega) h4.2.1
    try have hf6h4 := szSettingS_impA (by assumption) (by omega) (by omega) h4.2.2
    try have hf7h4 := szSettingS_impB (by assumption) (by omega) (by omega) h4
    try have hf8h4 := szSettingS_impB (by assumption) (by omega) (by omega) h4.1
    try have hf9h4 := szSettingS_impB (by assumption) (by omega) (by omega) h4.2
    try have hf10h4 := szSettingS_impB (by assumption) (by omega) (by omega) h4.1.1
    try have hf11h4 := szSettingS_impB (by assumption) (by omega) (by omega) h4.1.2
    try have hf12h4 := szSettingS_impB (by assumption) (by omega) (by omega) h4.2.1
    try have hf13h4 := szSettingS_impB (by assumption) (by omega) (by omega) h4.2.2
    refine run_seq ?_
    refine run_region (q_assign .n (.c rfl) rfl <|
        Lex.nil) ?_
    exact run_ret [] (.cons (.t rfl rfl) .nil) rfl trivial rfl
  · try simp only [Bool.and_eq_true, Bool.or_eq_true, Bool.not_eq_true', Bool.and_eq_false_iff, Bool.or_eq_false_iff, Bool.not_eq_false', decide_eq_true_eq, decide_eq_false_iff_not, beq_iff_eq, bne_iff_ne, beq_eq_false_iff_ne, bne_eq_false_iff_eq, Bool.true_and, ne_eq, Decidable.not_not, Int.not_lt, Int.not_le, Nat.not_lt, Nat.not_le, strB_nil, strB_nil', strB_nnil, strB_nnil'] at h4
    try have hf0h4 := szSettingS_impA (by assumption) (by omega) (by omega) h4
    try have hf1h4 := szSettingS_impA (by assumption) (by omega) (by omega) h4.1
    try have hf2h4 := szSettingS_impA (by assumption) (by omega) (by omega) h4.2
    try have hf3h4 := szSettingS_impA (by assumption) (by omega) (by omega) h4.1.1
    try have hf4h4 := szSettingS_impA (by assumption) (by omega) (by omega) h4.1.2
    try have hf5h4 := szSettingS_impA (by assumption) (by omega) (by omega) h4.2.1
    try have hf6h4 := szSettingS_impA (by assumption) (by omega) (by omega) h4.2.2
    try have hf7h4 := szSettingS_impB (by assumption) (by omega) (by omega) h4
    try have hf8h4 := szSettingS_impB (by assumption) (by omega) (by omega) h4.1
    try have hf9h4 := szSettingS_impB (by assumption) (by omega) (by omega) h4.2
    try have hf10h4 := szSettingS_impB (by assumption) (by omega) (by omega) h4.1.1
    try have hf11h4 := szSettingS_impB (by assumption) (by omega) (by omega) h4.1.2
    try have hf12h4 := szSettingS_impB (by assumption) (by omega) (by omega) h4.2.1
    try have hf13h4 := szSettingS_impB (by assumption) (by omega) (by omega) h4.2.2
    refine run_skip ?_
    refine run_seq ?_
    refine run_region (q_move .n (.t rfl) rfl <|
        q_move .n (.t rfl) rfl <|
        q_call0 (full := false) .n .f en_19 (.cons (.t rfl) (.cons (.t rfl) .nil)) (.cons (.b (.a (.same rfl))) (.cons (.b (.a (.same rfl))) .nil)) (fun hg => c_laws_szSettingS aA (m_laws_szSettingS aBase 1048576)) rfl (fun h => Bool.noConfusion h) rfl <|
        q_assign .n (.t rfl) rfl <|
        Lex.nil) ?_
    refine run_seq ?_
    refine run_seq ?_
    refine run_region (q_move .n (.t rfl) rfl <|
        q_int .n (.t rfl) (.c rfl) rfl rfl <|
        Lex.nil) ?_
    refine run_cond (.t rfl) rfl (fun h5 => ?_) (fun h5 => ?_)
    · try simp only [Bool.and_eq_true, Bool.or_eq_true, Bool.not_eq_true', Bool.and_eq_false_iff, Bool.or_eq_false_iff, Bool.not_eq_false', decide_eq_true_eq, decide_eq_false_iff_not, beq_iff_eq, bne_iff_ne, beq_eq_false_iff_ne, bne_eq_false_iff_eq, Bool.true_and, ne_eq, Decidable.not_not, Int.not_lt, Int.not_le, Nat.not_lt, Nat.not_le, strB_nil, strB_nil', strB_nnil, strB_nnil'] at h5
      try have hf0h5 := szSettingS_impA (by assumption) (by omega) (by omega) h5
      try have hf1h5 := szSettingS_impA (by assumption) (by omega) (by omega) h5.1
      try have hf2h5 := szSettingS_impA (by assumption) (by omega) (by omega) h5.2
      try have hf3h5 := szSettingS_impA (by assumption) (by omega) (by omega) h5.1.1
      try have hf4h5 := szSettingS_impA (by assumption) (by omega) (by omega) h5.1.2
      try have hf5h5 := szSettingS_impA (by assumption) (by omega) (by omega) h5.2.1
      try have hf6h5 := szSettingS_impA (by assumption) (by omega) (by omega) h5.2.2
      try have hf7h5 := szSettingS_impB (by assumption) (by omega) (by omega) h5
      try have hf8h5 := szSettingS_impB (by assumption) (by omega) (by omega) h5.1
      try have hf9h5 := szSettingS_impB (by assumption) (by omega) (by omega) h5.2
      try have hf10h5 := szSettingS_impB (by assumption) (by omega) (by omega) h5.1.1
      try have hf11h5 := szSettingS_impB (by assumption) (by omega) (by omega) h5.1.2
      try have hf12h5 := szSettingS_impB (by assumption) (by omega) (by omega) h5.2.1
      try have hf13h5 := szSettingS_impB (by assumption) (by omega) (by omega) h5.2.2
      refine run_seq ?_
      refine run_region (q_assign .n (.c rfl) rfl <|
          Lex.nil) ?_
      exact run_ret [] (.cons (.t rfl rfl) .nil) rfl trivial rfl
    · try simp only [Bool.and_eq_true, Bool.or_eq_true, Bool.not_eq_true', Bool.and_eq_false_iff, Bool.or_eq_false_iff, Bool.not_eq_false', decide_eq_true_eq, decide_eq_false_iff_not, beq_iff_eq, bne_iff_ne, beq_eq_false_iff_ne, bne_eq_false_iff_eq, Bool.true_and, ne_eq, Decidable.not_not, Int.not_lt, Int.not_le, Nat.not_lt, Nat.not_le, strB_nil, strB_nil', strB_nnil, strB_nnil'] at h5
      try have hf0h5 := szSettingS_impA (by assumption) (by omega) (by omega) h5
      try have hf1h5 := szSettingS_impA (by assumption) (by omega) (by omega) h5.1
      try have hf2h5 := szSettingS_impA (by assumption) (by omega) (by omega) h5.2
      try have hf3h5 := szSettingS_impA (by assumption) (by omega) (by omega) h5.1.1
      try have hf4h5 := szSettingS_impA (by assumption) (by omega) (by omega) h5.1.2
      try have hf5h5 := szSettingS_impA (by assumption) (by omega) (by omega) h5.2.1
      try have hf6h5 := szSettingS_impA (by assumption) (by omega) (by omega) h5.2.2
      try have hf7h5 := szSettingS_impB (by assumption) (by omega) (by omega) h5
      try have hf8h5 := szSettingS_impB (by assumption) (by omega) (by omega) h5.1
      try have hf9h5 := szSettingS_impB (by assumption) (by omega) (by omega) h5.2
      try have hf10h5 := szSettingS_impB (by assumption) (by omega) (by omega) h5.1.1
      try have hf11h5 := szSettingS_impB (by assumption) (by omega) (by omega) h5.1.2
      try have hf12h5 := szSettingS_impB (by assumption) (by omega) (by omega) h5.2.1
      try have hf13h5 := szSettingS_impB (by assumption) (by omega) (by omega) h5.2.2
      refine run_skip ?_
      refine run_seq ?_
      refine run_region (q_move .n (.t rfl) rfl <|
          q_move .n (.t rfl) rfl <|
          q_call0 (full := false) .n .f en_19 (.cons (.t rfl) (.cons (.t rfl) .nil)) (.cons (.b (.a (.same rfl))) (.cons (.b (.a (.same rfl))) .nil)) (fun hg => c_laws_szSettingS aB (m_laws_szSettingS aA (m_laws_szSettingS aBase 1048576))) rfl (fun h => Bool.noConfusion h) rfl <|
          q_assign .n (.t rfl) rfl <|
          Lex.nil) ?_
      refine run_seq ?_
      refine run_seq ?_
      refine run_region (q_move .n (.t rfl) rfl <|
          q_int .n (.t rfl) (.c rfl) rfl rfl <|
          Lex.nil) ?_
      refine run_cond (.t rfl) rfl (fun h6 => ?_) (fun h6 => ?_)
      · try simp only [Bool.and_eq_true, Bool.or_eq_true, Bool.not_eq_true', Bool.and_eq_false_iff, Bool.or_eq_false_iff, Bool.not_eq_false', decide_eq_true_eq, decide_eq_false_iff_not, beq_iff_eq, bne_iff_ne, beq_eq_false_iff_ne, bne_eq_false_iff_eq, Bool.true_and, ne_eq, Decidable.not_not, Int.not_lt, Int.not_le, Nat.not_lt, Nat.not_le, strB_nil, strB_nil', strB_nnil, strB_nnil'] at h6
        try have hf0h6 := szSettingS_impA (by assumption) (by omega) (by omega) h6
        try have hf1h6 := szSettingS_impA (by assumption) (by omega) (by omega) h6.1
        try have hf2h6 := szSettingS_impA (by assumption) (by omega) (by omega) h6.2
        try have hf3h6 := szSettingS_impA (by assumption) (by omega) (by omega) h6.1.1
        try have hf4h6 := szSettingS_impA (by assumption) (by omega) (by omega) h6.1.2
        try have hf5h6 := szSettingS_impA (by assumption) (by omega) (by omega) h6.2.1
        try have hf6h6 := szSettingS_impA (by assumption) (by omega) (by omega) h6.2.2
        try have hf7h6 := szSettingS_impB (by assumption) (by omega) (by omega) h6
        try have hf8h6 := szSettingS_impB (by assumption) (by omega) (by omega) h6.1
        try have hf9h6 := szSettingS_impB (by assumption) (by omega) (by omega) h6.2
        try have hf10h6 := szSettingS_impB (by assumption) (by omega) (by omega) h6.1.1
        try have hf11h6 := szSettingS_impB (by assumption) (by omega) (by omega) h6.1.2
        try have hf12h6 := szSettingS_impB (by assumption) (by omega) (by omega) h6.2.1
        try have hf13h6 := szSettingS_impB (by assumption) (by omega) (by omega) h6.2.2
        refine run_seq ?_
        refine run_region (q_assign .n (.c rfl) rfl <|
            Lex.nil) ?_
        exact run_ret [] (.cons (.t rfl rfl) .nil) rfl trivial rfl
      · try simp only [Bool.and_eq_true, Bool.or_eq_true, Bool.not_eq_true', Bool.and_eq_false_iff, Bool.or_eq_false_iff, Bool.not_eq_false', decide_eq_true_eq, decide_eq_false_iff_not, beq_iff_eq, bne_iff_ne, beq_eq_false_iff_ne, bne_eq_false_iff_eq, Bool.true_and, ne_eq, Decidable.not_not, Int.not_lt, Int.not_le, Nat.not_lt, Nat.not_le, strB_nil, strB_nil', strB_nnil, strB_nnil'] at h6
        try have hf0h6 := szSettingS_impA (by assumption) (by omega) (by omega) h6
        try have hf1h6 := szSettingS_impA (by assumption) (by omega) (by omega) h6.1
        try have hf2h6 := szSettingS_impA (by assumption) (by omega) (by omega) h6.2
        try have hf3h6 := szSettingS_impA (by assumption) (by omega) (by omega) h6.1.1
        try have hf4h6 := szSettingS_impA (by assumption) (by omega) (by omega) h6.1.2
        try have hf5h6 := szSettingS_impA (by assumption) (by omega) (by omega) h6.2.1
        try have hf6h6 := szSettingS_impA (by assumption) (by omega) (by omega) h6.2.2
        try have hf7h6 := szSettingS_impB (by assumption) (by omega) (by omega) h6
        try have hf8h6 := szSettingS_impB (by assumption) (by omega) (by omega) h6.1
        try have hf9h6 := szSettingS_impB (by assumption) (by omega) (by omega) h6.2
        try have hf10h6 := szSettingS_impB (by assumption) (by omega) (by omega) h6.1.1
        try have hf11h6 := szSettingS_impB (by assumption) (by omega) (by omega) h6.1.2
        try have hf12h6 := szSettingS_impB (by assumption) (by omega) (by omega) h6.2.1
        try have hf13h6 := szSettingS_impB (by assumption) (by omega) (by omega) h6.2.2
        refine run_skip ?_
        refine run_seq ?_
        refine run_region (q_move .n (.t rfl) rfl <|
            q_callM (full := false) [] [(100, 200)] .n rfl .f en_21 (.cons (.t rfl) .nil) (.cons (.b (.a (.same rfl))) .nil) (c_laws_toSettingS aBase (by first | omega | assumption | (simp only [List.length_append, List.length_cons, List.length_nil, List.length_replicate, put_len] at * <;> omega) | (exact wr64_le) | ((simp only [toSetting_eq, toSettingS_eq] at *; omega)) | ((repeat (first | omega | refine markSettingS_le ?_))))) trivial rfl rfl (fun h => Bool.noConfusion h) (fun h => Bool.noConfusion h) rfl <|
            q_move .n (.t rfl) rfl <|
            q_callM (full := false) [] [(100, 201)] .n rfl .f en_21 (.cons (.t rfl) .nil) (.cons (.b (.a (.same rfl))) .nil) (c_laws_toSettingS aA (by first | omega | assumption | (simp only [List.length_append, List.length_cons, List.length_nil, List.length_replicate, put_len] at * <;> omega) | (exact wr64_le) | ((simp only [toSetting_eq, toSettingS_eq] at *; omega)) | ((repeat (first | omega | refine markSettingS_le ?_))))) trivial rfl rfl (fun h => Bool.noConfusion h) (fun h => Bool.noConfusion h) rfl <|
            q_move .n (.t rfl) rfl <|
            q_callM (full := false) [] [(100, 202)] .n rfl .f en_21 (.cons (.t rfl) .nil) (.cons (.b (.a (.same rfl))) .nil) (c_laws_toSettingS aB (by first | omega | assumption | (simp only [List.length_append, List.length_cons, List.length_nil, List.length_replicate, put_len] at * <;> omega) | (exact wr64_le) | ((simp only [toSetting_eq, toSettingS_eq] at *; omega)) | ((repeat (first | omega | refine markSettingS_le ?_))))) trivial rfl rfl (fun h => Bool.noConfusion h) (fun h => Bool.noConfusion h) rfl <|
            q_callM (full := true) [] [(100, 203)] .n rfl .f en_25 (.cons (.t rfl) (.cons (.t rfl) (.cons (.t rfl) .nil))) (.cons (.b (.a (.own rfl rfl rfl (take_all (by simp only [len_map, put_len, markSettingS_len] <;> rfl)) (by simp only [len_map, put_len, markSettingS_len] <;> rfl)))) (.cons (.b (.a (.own rfl rfl rfl (take_all (by simp only [len_map, put_len, markSettingS_len] <;> rfl)) (by simp only [len_map, put_len, markSettingS_len] <;> rfl)))) (.cons (.b (.a (.own rfl rfl rfl (take_all (by simp only [len_map, put_len, markSettingS_len] <;> rfl)) (by simp only [len_map, put_len, markSettingS_len] <;> rfl)))) .nil))) (c_spec_MergeStates (m_laws_toSettingS aBase) (m_laws_toSettingS aA) (m_laws_toSettingS aB)) trivial rfl rfl (fun _ => rfl) (fun _ => (hr_row (fun _ => rfl) hr_nil)) rfl <|
            q_move .n (.t rfl) rfl <|
            q_ext .n (.t rfl) rfl rfl rfl <|
            q_ext .n (.t rfl) rfl rfl rfl <|
            q_assign .n (.t rfl) rfl <|
            q_assign .n (.t rfl) rfl <|
            Lex.nil) ?_
        refine run_seq ?_
        refine run_region (q_move .n (.t rfl) rfl <|
            q_callM (full := false) [] [(100, 204)] .n rfl .f en_21 (.cons (.t rfl) .nil) (.cons (.b (.a (.same rfl))) .nil) (c_laws_toSettingS aBase (by first | omega | assumption | (simp only [List.length_append, List.length_cons, List.length_nil, List.length_replicate, put_len] at * <;> omega) | (exact wr64_le) | ((simp only [toSetting_eq, toSettingS_eq] at *; omega)) | ((repeat (first | omega | refine markSettingS_le ?_))))) trivial rfl rfl (fun h => Bool.noConfusion h) (fun h => Bool.noConfusion h) rfl <|
            q_assign .n (.t rfl) rfl <|
            Lex.nil) ?_
        refine run_seq ?_
        refine run_region (q_move .n (.t rfl) rfl <|
            q_callM (full := false) [] [(100, 205)] .n rfl .f en_21 (.cons (.t rfl) .nil) (.cons (.b (.a (.same rfl))) .nil) (c_laws_toSettingS aA (by first | omega | assumption | (simp only [List.length_append, List.length_cons, List.length_nil, List.length_replicate, put_len] at * <;> omega) | (exact wr64_le) | ((simp only [toSetting_eq, toSettingS_eq] at *; omega)) | ((repeat (first | omega | refine markSettingS_le ?_))))) trivial rfl rfl (fun h => Bool.noConfusion h) (fun h => Bool.noConfusion h) rfl <|
            q_assign .n (.t rfl) rfl <|
            Lex.nil) ?_
        refine run_seq ?_
        refine run_region (q_move .n (.t rfl) rfl <|
            q_callM (full := false) [] [(100, 206)] .n rfl .f en_21 (.cons (.t rfl) .nil) (.cons (.b (.a (.same rfl))) .nil) (c_laws_toSettingS aB (by first | omega | assumption | (simp only [List.length_append, List.length_cons, List.length_nil, List.length_replicate, put_len] at * <;> omega) | (exact wr64_le) | ((simp only [toSetting_eq, toSettingS_eq] at *; omega)) | ((repeat (first | omega | refine markSettingS_le ?_))))) trivial rfl rfl (fun h => Bool.noConfusion h) (fun h => Bool.noConfusion h) rfl <|
            q_assign .n (.t rfl) rfl <|
            Lex.nil) ?_
        refine run_seq ?_
        refine run_region (q_move .n (.t rfl) rfl <|
            q_move .n (.t rfl) rfl <|
            q_move .n (.t rfl) rfl <|
            q_callM (full := true) [] [(100, 207)] .n rfl .f en_26 (.cons (.t rfl) (.cons (.t rfl) (.cons (.t rfl) .nil))) (.cons (.b (.a (.own rfl rfl rfl (take_all (by simp only [len_map, put_len, markSettingS_len] <;> rfl)) (by simp only [len_map, put_len, markSettingS_len] <;> rfl)))) (.cons (.b (.a (.own rfl rfl rfl (take_all (by simp only [len_map, put_len, markSettingS_len] <;> rfl)) (by simp only [len_map, put_len, markSettingS_len] <;> rfl)))) (.cons (.b (.a (.own rfl rfl rfl (take_all (by simp only [len_map, put_len, markSettingS_len] <;> rfl)) (by simp only [len_map, put_len, markSettingS_len] <;> rfl)))) .nil))) (c_impl_MergeStates (m_laws_toSettingS aBase) (m_laws_toSettingS aA) (m_laws_toSettingS aB)) trivial rfl rfl (fun _ => rfl) (fun _ => (hr_row (fun _ => rfl) hr_nil)) rfl <|
            q_move .n (.t rfl) rfl <|
            q_ext .n (.t rfl) rfl rfl rfl <|
            q_ext .n (.t rfl) rfl rfl rfl <|
            q_assign .n (.t rfl) rfl <|
            q_assign .n (.t rfl) rfl <|
            Lex.nil) ?_
        refine run_seq ?_
        refine run_seq ?_
        refine run_region (q_move .n (.t rfl) rfl <|
            q_move .n (.t rfl) rfl <|
            q_call0 (full := true) .n .f en_23 (.cons (.t rfl) (.cons (.t rfl) .nil)) (.cons (.b (.a (.own rfl rfl rfl (take_all (by simp only [len_map, put_len, markSettingS_len] <;> rfl)) (by simp only [len_map, put_len, markSettingS_len] <;> rfl)))) (.cons (.b (.a (.own rfl rfl rfl (take_all (by simp only [len_map, put_len, markSettingS_len] <;> rfl)) (by simp only [len_map, put_len, markSettingS_len] <;> rfl)))) .nil)) (fun hg => c_laws_eqSettingS (m_impl_MergeStates (m_laws_toSettingS aBase) (m_laws_toSettingS aA) (m_laws_toSettingS aB)).1 (m_spec_MergeStates (m_laws_toSettingS aBase) (m_laws_toSettingS aA) (m_laws_toSettingS aB)).1) rfl (fun _ => rfl) rfl <|
            q_not .n (.t rfl) rfl <|
            q_move .n (.t rfl) rfl <|
            q_move (.f rfl rfl) (.t rfl) rfl <|
            q_move (.f rfl rfl) (.t rfl) rfl <|
            q_int (.f rfl rfl) (.u rfl id) (.u rfl id) rfl rfl <|
            q_or .n (.t rfl) (.u rfl id) rfl <|
            Lex.nil) ?_
        refine run_cond (.t rfl) rfl (fun h7 => ?_) (fun h7 => ?_)
        · try simp only [Bool.and_eq_true, Bool.or_eq_true, Bool.not_eq_true', Bool.and_eq_false_iff, Bool.or_eq_false_iff, Bool.not_eq_false', decide_eq_true_eq, decide_eq_false_iff_not, beq_iff_eq, bne_iff_ne, beq_eq_false_iff_ne, bne_eq_false_iff_eq, Bool.true_and, ne_eq, Decidable.not_not, Int.not_lt, Int.not_le, Nat.not_lt, Nat.not_le, strB_nil, strB_nil', strB_nnil, strB_nnil'] at h7
          refine run_seq ?_
          refine run_region (q_assign .n (.c rfl) rfl <|
              Lex.nil) ?_
          exact run_ret [] (.cons (.t rfl rfl) .nil) rfl trivial rfl
        · try simp only [Bool.and_eq_true, Bool.or_eq_true, Bool.not_eq_true', Bool.and_eq_false_iff, Bool.or_eq_false_iff, Bool.not_eq_false', decide_eq_true_eq, decide_eq_false_iff_not, beq_iff_eq, bne_iff_ne, beq_eq_false_iff_ne, bne_eq_false_iff_eq, Bool.true_and, ne_eq, Decidable.not_not, Int.not_lt, Int.not_le, Nat.not_lt, Nat.not_le, strB_nil, strB_nil', strB_nnil, strB_nnil'] at h7
          refine run_skip ?_
          refine run_seq ?_
          refine run_seq ?_
          refine run_region (q_move .n (.t rfl) rfl <|
              q_move .n (.t rfl) rfl <|
              q_callM (full := false) [] [(100, 208)] .n rfl .f en_21 (.cons (.t rfl) .nil) (.cons (.b (.a (.same rfl))) .nil) (c_laws_toSettingS aBase (by first | omega | assumption | (simp only [List.length_append, List.length_cons, List.length_nil, List.length_replicate, put_len] at * <;> omega) | (exact wr64_le) | ((simp only [toSetting_eq, toSettingS_eq] at *; omega)) | ((repeat (first | omega | refine markSettingS_le ?_))))) trivial rfl rfl (fun h => Bool.noConfusion h) (fun h => Bool.noConfusion h) rfl <|
              q_call0 (full := true) .n .f en_23 (.cons (.t rfl) (.cons (.t rfl) .nil)) (.cons (.b (.a (.own rfl rfl rfl (take_all (by simp only [len_map, put_len, markSettingS_len] <;> rfl)) (by simp only [len_map, put_len, markSettingS_len] <;> rfl)))) (.cons (.b (.a (.own rfl rfl rfl (take_all (by simp only [len_map, put_len, markSettingS_len] <;> rfl)) (by simp only [len_map, put_len, markSettingS_len] <;> rfl)))) .nil)) (fun hg => c_laws_eqSettingS (m_laws_toSettingS aBase) (m_laws_toSettingS aBase)) rfl (fun _ => rfl) rfl <|
              q_not .n (.t rfl) rfl <|
              Lex.nil) ?_
          refine run_cond (.t rfl) rfl (fun h8 => ?_) (fun h8 => ?_)
          · try simp only [Bool.and_eq_true, Bool.or_eq_true, Bool.not_eq_true', Bool.and_eq_false_iff, Bool.or_eq_false_iff, Bool.not_eq_false', decide_eq_true_eq, decide_eq_false_iff_not, beq_iff_eq, bne_iff_ne, beq_eq_false_iff_ne, bne_eq_false_iff_eq, Bool.true_and, ne_eq, Decidable.not_not, Int.not_lt, Int.not_le, Nat.not_lt, Nat.not_le, strB_nil, strB_nil', strB_nnil, strB_nnil'] at h8
            refine run_seq ?_
            refine run_region (q_assign .n (.c rfl) rfl <|
                Lex.nil) ?_
            exact run_ret [] (.cons (.t rfl rfl) .nil) rfl trivial rfl
          · try simp only [Bool.and_eq_true, Bool.or_eq_true, Bool.not_eq_true', Bool.and_eq_false_iff, Bool.or_eq_false_iff, Bool.not_eq_false', decide_eq_true_eq, decide_eq_false_iff_not, beq_iff_eq, bne_iff_ne, beq_eq_false_iff_ne, bne_eq_false_iff_eq, Bool.true_and, ne_eq, Decidable.not_not, Int.not_lt, Int.not_le, Nat.not_lt, Nat.not_le, strB_nil, strB_nil', strB_nnil, strB_nnil'] at h8
            refine run_skip ?_
            refine run_seq ?_
            refine run_seq ?_
            refine run_region (q_move .n (.t rfl) rfl <|
                q_move .n (.t rfl) rfl <|
                q_callM (full := false) [] [(100, 209)] .n rfl .f en_21 (.cons (.t rfl) .nil) (.cons (.b (.a (.same rfl))) .nil) (c_laws_toSettingS aA (by first | omega | assumption | (simp only [List.length_append, List.length_cons, List.length_nil, List.length_replicate, put_len] at * <;> omega) | (exact wr64_le) | ((simp only [toSetting_eq, toSettingS_eq] at *; omega)) | ((repeat (first | omega | refine markSettingS_le ?_))))) trivial rfl rfl (fun h => Bool.noConfusion h) (fun h => Bool.noConfusion h) rfl <|
                q_call0 (full := true) .n .f en_23 (.cons (.t rfl) (.cons (.t rfl) .nil)) (.cons (.b (.a (.own rfl rfl rfl (take_all (by simp only [len_map, put_len, markSettingS_len] <;> rfl)) (by simp only [len_map, put_len, markSettingS_len] <;> rfl)))) (.cons (.b (.a (.own rfl rfl rfl (take_all (by simp only [len_map, put_len, markSettingS_len] <;> rfl)) (by simp only [len_map, put_len, markSettingS_len] <;> rfl)))) .nil)) (fun hg => c_laws_eqSettingS (m_laws_toSettingS aA) (m_laws_toSettingS aA)) rfl (fun _ => rfl) rfl <|
                q_not .n (.t rfl) rfl <|
                Lex.nil) ?_
            refine run_cond (.t rfl) rfl (fun h9 => ?_) (fun h9 => ?_)
            · try simp only [Bool.and_eq_true, Bool.or_eq_true, Bool.not_eq_true', Bool.and_eq_false_iff, Bool.or_eq_false_iff, Bool.not_eq_false', decide_eq_true_eq, decide_eq_false_iff_not, beq_iff_eq, bne_iff_ne, beq_eq_false_iff_ne, bne_eq_false_iff_eq, Bool.true_and, ne_eq, Decidable.not_not, Int.not_lt, Int.not_le, Nat.not_lt, Nat.not_le, strB_nil, strB_nil', strB_nnil, strB_nnil'] at h9
              refine run_seq ?_
              refine run_region (q_assign .n (.c rfl) rfl <|
                  Lex.nil) ?_
              exact run_ret [] (.cons (.t rfl rfl) .nil) rfl trivial rfl
            · try simp only [Bool.and_eq_true, Bool.or_eq_true, Bool.not_eq_true', Bool.and_eq_false_iff, Bool.or_eq_false_iff, Bool.not_eq_false', decide_eq_true_eq, decide_eq_false_iff_not, beq_iff_eq, bne_iff_ne, beq_eq_false_iff_ne, bne_eq_false_iff_eq, Bool.true_and, ne_eq, Decidable.not_not, Int.not_lt, Int.not_le, Nat.not_lt, Nat.not_le, strB_nil, strB_nil', strB_nnil, strB_nnil'] at h9
              refine run_skip ?_
              refine run_seq ?_
              refine run_seq ?_
              refine run_region (q_move .n (.t rfl) rfl <|
                  q_move .n (.t rfl) rfl <|
                  q_callM (full := false) [] [(100, 210)] .n rfl .f en_21 (.cons (.t rfl) .nil) (.cons (.b (.a (.same rfl))) .nil) (c_laws_toSettingS aB (by first | omega | assumption | (simp only [List.length_append, List.length_cons, List.length_nil, List.length_replicate, put_len] at * <;> omega) | (exact wr64_le) | ((simp only [toSetting_eq, toSettingS_eq] at *; omega)) | ((repeat (first | omega | refine markSettingS_le ?_))))) trivial rfl rfl (fun h => Bool.noConfusion h) (fun h => Bool.noConfusion h) rfl <|
                  q_call0 (full := true) .n .f en_23 (.cons (.t rfl) (.cons (.t rfl) .nil)) (.cons (.b (.a (.own rfl rfl rfl (take_all (by simp only [len_map, put_len, markSettingS_len] <;> rfl)) (by simp only [len_map, put_len, markSettingS_len] <;> rfl)))) (.cons (.b (.a (.own rfl rfl rfl (take_all (by simp only [len_map, put_len, markSettingS_len] <;> rfl)) (by simp only [len_map, put_len, markSettingS_len] <;> rfl)))) .nil)) (fun hg => c_laws_eqSettingS (m_laws_toSettingS aB) (m_laws_toSettingS aB)) rfl (fun _ => rfl) rfl <|
                  q_not .n (.t rfl) rfl <|
                  Lex.nil) ?_
              refine run_cond (.t rfl) rfl (fun h10 => ?_) (fun h10 => ?_)
              · try simp only [Bool.and_eq_true, Bool.or_eq_true, Bool.not_eq_true', Bool.and_eq_false_iff, Bool.or_eq_false_iff, Bool.not_eq_false', decide_eq_true_eq, decide_eq_false_iff_not, beq_iff_eq, bne_iff_ne, beq_eq_false_iff_ne, bne_eq_false_iff_eq, Bool.true_and, ne_eq, Decidable.not_not, Int.not_lt, Int.not_le, Nat.not_lt, Nat.not_le, strB_nil, strB_nil', strB_nnil, strB_nnil'] at h10
                refine run_seq ?_
                refine run_region (q_assign .n (.c rfl) rfl <|
                    Lex.nil) ?_
                exact run_ret [] (.cons (.t rfl rfl) .nil) rfl trivial rfl
              · try simp only [Bool.and_eq_true, Bool.or_eq_true, Bool.not_eq_true', Bool.and_eq_false_iff, Bool.or_eq_false_iff, Bool.not_eq_false', decide_eq_true_eq, decide_eq_false_iff_not, beq_iff_eq, bne_iff_ne, beq_eq_false_iff_ne, bne_eq_false_iff_eq, Bool.true_and, ne_eq, Decidable.not_not, Int.not_lt, Int.not_le, Nat.not_lt, Nat.not_le, strB_nil, strB_nil', strB_nnil, strB_nnil'] at h10
                refine run_skip ?_
                refine run_seq ?_
                refine run_region (q_assign .n (.c rfl) rfl <|
                    Lex.nil) ?_
                refine run_seq ?_
                refine run_region (q_move .n (.t rfl) rfl <|
                    q_move .n (.t rfl) rfl <|
                    q_callM (full := false) [(0, 204)] [] .n rfl .f en_24 (.cons (.t rfl) (.cons (.t rfl) .nil)) (.cons (.b (.muts rfl)) (.cons (.b (.a (.same rfl))) .nil)) (c_laws_markSettingS (m_laws_toSettingS aBase) 1 (by first | omega | assumption | (simp only [List.length_append, List.length_cons, List.length_nil, List.length_replicate, put_len] at * <;> omega) | (exact wr64_le) | ((simp only [toSetting_eq, toSettingS_eq] at *; omega)) | ((repeat (first | omega | refine markSettingS_le ?_))))) ⟨rfl, trivial⟩ rfl rfl (fun h => Bool.noConfusion h) (fun h => Bool.noConfusion h) rfl <|
                    q_assign .n (.t rfl) rfl <|
                    Lex.nil) ?_
                refine run_seq ?_
                refine run_region (q_move .n (.t rfl) rfl <|
                    q_move .n (.t rfl) rfl <|
                    q_callM (full := false) [(0, 205)] [] .n rfl .f en_24 (.cons (.t rfl) (.cons (.t rfl) .nil)) (.cons (.b (.muts rfl)) (.cons (.b (.a (.same rfl))) .nil)) (c_laws_markSettingS (m_laws_toSettingS aA) (m_laws_markSettingS (m_laws_toSettingS aBase) 1).1 (by first | omega | assumption | (simp only [List.length_append, List.length_cons, List.length_nil, List.length_replicate, put_len] at * <;> omega) | (exact wr64_le) | ((simp only [toSetting_eq, toSettingS_eq] at *; omega)) | ((repeat (first | omega | refine markSettingS_le ?_))))) ⟨rfl, trivial⟩ rfl rfl (fun h => Bool.noConfusion h) (fun h => Bool.noConfusion h) rfl <|
                    q_assign .n (.t rfl) rfl <|
                    Lex.nil) ?_
                refine run_seq ?_
                refine run_region (q_move .n (.t rfl) rfl <|
                    q_move .n (.t rfl) rfl <|
                    q_callM (full := false) [(0, 206)] [] .n rfl .f en_24 (.cons (.t rfl) (.cons (.t rfl) .nil)) (.cons (.b (.muts rfl)) (.cons (.b (.a (.same rfl))) .nil)) (c_laws_markSettingS (m_laws_toSettingS aB) (m_laws_markSettingS (m_laws_toSettingS aA) (m_laws_markSettingS (m_laws_toSettingS aBase) 1).1).1 (by first | omega | assumption | (simp only [List.length_append, List.length_cons, List.length_nil, List.length_replicate, put_len] at * <;> omega) | (exact wr64_le) | ((simp only [toSetting_eq, toSettingS_eq] at *; omega)) | ((repeat (first | omega | refine markSettingS_le ?_))))) ⟨rfl, trivial⟩ rfl rfl (fun h => Bool.noConfusion h) (fun h => Bool.noConfusion h) rfl <|
                    q_assign .n (.t rfl) rfl <|
                    Lex.nil) ?_
                refine run_seq ?_
                refine run_seq ?_
                refine run_region (q_move .n (.t rfl) rfl <|
                    q_int .n (.t rfl) (.c rfl) rfl rfl <|
                    q_move .n (.t rfl) rfl <|
                    q_move (.f rfl rfl) (.t rfl) rfl <|
                    q_move (.f rfl rfl) (.t rfl) rfl <|
                    q_call0 (full := true) (.f rfl rfl) .f en_23 (.cons (.u rfl id) (.cons (.u rfl id) .nil)) (.cons (.b (.a (.own rfl rfl rfl (take_all (by simp only [len_map, put_len, markSettingS_len] <;> rfl)) (by simp only [len_map, put_len, markSettingS_len] <;> rfl)))) (.cons (.b (.a (.own rfl rfl rfl (take_all (by simp only [len_map, put_len, markSettingS_len] <;> rfl)) (by simp only [len_map, put_len, markSettingS_len] <;> rfl)))) .nil)) (fun hg => c_laws_eqSettingS (m_impl_MergeStates (m_laws_toSettingS aBase) (m_laws_toSettingS aA) (m_laws_toSettingS aB)).1 (m_spec_MergeStates (m_laws_toSettingS aBase) (m_laws_toSettingS aA) (m_laws_toSettingS aB)).1) rfl (fun _ => rfl) rfl <|
                    q_not (.f rfl rfl) (.u rfl id) rfl <|
                    q_or .n (.t rfl) (.u rfl id) rfl <|
                    q_move .n (.t rfl) rfl <|
                    q_move (.f rfl rfl) (.t rfl) rfl <|
                    q_move (.f rfl rfl) (.t rfl) rfl <|
                    q_int (.f rfl rfl) (.u rfl id) (.u rfl id) rfl rfl <|
                    q_or .n (.t rfl) (.u rfl id) rfl <|
                    Lex.nil) ?_
                refine run_cond (.t rfl) rfl (fun h11 => ?_) (fun h11 => ?_)
                · try simp only [Bool.and_eq_true, Bool.or_eq_true, Bool.not_eq_true', Bool.and_eq_false_iff, Bool.or_eq_false_iff, Bool.not_eq_false', decide_eq_true_eq, decide_eq_false_iff_not, beq_iff_eq, bne_iff_ne, beq_eq_false_iff_ne, bne_eq_false_iff_eq, Bool.true_and, ne_eq, Decidable.not_not, Int.not_lt, Int.not_le, Nat.not_lt, Nat.not_le, strB_nil, strB_nil', strB_nnil, strB_nnil'] at h11
                  refine run_seq ?_
                  refine run_region (q_assign .n (.c rfl) rfl <|
                      Lex.nil) ?_
                  exact run_ret [] (.cons (.t rfl rfl) .nil) rfl trivial rfl
                · try simp only [Bool.and_eq_true, Bool.or_eq_true, Bool.not_eq_true', Bool.and_eq_false_iff, Bool.or_eq_false_iff, Bool.not_eq_false', decide_eq_true_eq, decide_eq_false_iff_not, beq_iff_eq, bne_iff_ne, beq_eq_false_iff_ne, bne_eq_false_iff_eq, Bool.true_and, ne_eq, Decidable.not_not, Int.not_lt, Int.not_le, Nat.not_lt, Nat.not_le, strB_nil, strB_nil', strB_nnil, strB_nnil'] at h11
                  refine run_skip ?_
                  refine run_seq ?_
                  refine run_region (q_assign .n (.c rfl) rfl <|
                      Lex.nil) ?_
                  refine run_seq ?_
                  refine run_region (q_move .n (.t rfl) rfl <|
                      q_move .n (.t rfl) rfl <|
                      q_callM (full := false) [(0, 207)] [] .n rfl .f en_24 (.cons (.t rfl) (.cons (.t rfl) .nil)) (.cons (.b (.muts rfl)) (.cons (.b (.a (.same rfl))) .nil)) (c_laws_markSettingS (m_impl_MergeStates (m_laws_toSettingS aBase) (m_laws_toSettingS aA) (m_laws_toSettingS aB)).1 1 (by first | omega | assumption | (simp only [List.length_append, List.length_cons, List.length_nil, List.length_replicate, put_len] at * <;> omega) | (exact wr64_le) | ((simp only [toSetting_eq, toSettingS_eq] at *; omega)) | ((repeat (first | omega | refine markSettingS_le ?_))))) ⟨rfl, trivial⟩ rfl rfl (fun h => Bool.noConfusion h) (fun h => Bool.noConfusion h) rfl <|
                      q_assign .n (.t rfl) rfl <|
                      Lex.nil) ?_
                  refine run_seq ?_
                  refine run_region (q_assign .n (.c rfl) rfl <|
                      Lex.nil) ?_
                  refine run_seq ?_
                  refine run_region (q_move .n (.t rfl) rfl <|
                      q_move .n (.t rfl) rfl <|
                      q_call0 (full := true) .n .f en_27 (.cons (.t rfl) (.cons (.t rfl) .nil)) (.cons (.b (.a (.own rfl rfl rfl (take_all (by simp only [len_map, put_len, markSettingS_len] <;> rfl)) (by simp only [len_map, put_len, markSettingS_len] <;> rfl)))) (.cons (.b (.a (.same rfl))) .nil)) (fun hg => c_laws_heldSettingS (m_laws_markSettingS (m_impl_MergeStates (m_laws_toSettingS aBase) (m_laws_toSettingS aA) (m_laws_toSettingS aB)).1 1).2 1 (by first | omega | assumption | (simp only [List.length_append, List.length_cons, List.length_nil, List.length_replicate, put_len] at * <;> omega) | (exact wr64_le) | ((simp only [toSetting_eq, toSettingS_eq] at *; omega)) | ((repeat (first | omega | refine markSettingS_le ?_))))) rfl (fun _ => rfl) rfl <|
                      q_assign .n (.t rfl) rfl <|
                      Lex.nil) ?_
                  refine run_seq ?_
                  refine run_seq ?_
                  refine run_region (q_move .n (.t rfl) rfl <|
                      q_int .n (.t rfl) (.c rfl) rfl rfl <|
                      Lex.nil) ?_
                  refine run_cond (.t rfl) rfl (fun h12 => ?_) (fun h12 => ?_)
                  · try simp only [Bool.and_eq_true, Bool.or_eq_true, Bool.not_eq_true', Bool.and_eq_false_iff, Bool.or_eq_false_iff, Bool.not_eq_false', decide_eq_true_eq, decide_eq_false_iff_not, beq_iff_eq, bne_iff_ne, beq_eq_false_iff_ne, bne_eq_false_iff_eq, Bool.true_and, ne_eq, Decidable.not_not, Int.not_lt, Int.not_le, Nat.not_lt, Nat.not_le, strB_nil, strB_nil', strB_nnil, strB_nnil'] at h12
                    refine run_seq ?_
                    refine run_region (q_assign .n (.c rfl) rfl <|
                        Lex.nil) ?_
                    exact run_ret [] (.cons (.t rfl rfl) .nil) rfl trivial rfl
                  · try simp only [Bool.and_eq_true, Bool.or_eq_true, Bool.not_eq_true', Bool.and_eq_false_iff, Bool.or_eq_false_iff, Bool.not_eq_false', decide_eq_true_eq, decide_eq_false_iff_not, beq_iff_eq, bne_iff_ne, beq_eq_false_iff_ne, bne_eq_false_iff_eq, Bool.true_and, ne_eq, Decidable.not_not, Int.not_lt, Int.not_le, Nat.not_lt, Nat.not_le, strB_nil, strB_nil', strB_nnil, strB_nnil'] at h12
                    refine run_skip ?_
                    refine run_seq ?_
                    refine run_seq ?_
                    refine run_region (q_move .n (.t rfl) rfl <|
                        q_move .n (.t rfl) rfl <|
                        q_int .n (.t rfl) (.t rfl) rfl rfl <|
                        Lex.nil) ?_
                    refine run_cond (.t rfl) rfl (fun h13 => ?_) (fun h13 => ?_)
                    · try simp only [Bool.and_eq_true, Bool.or_eq_true, Bool.not_eq_true', Bool.and_eq_false_iff, Bool.or_eq_false_iff, Bool.not_eq_false', decide_eq_true_eq, decide_eq_false_iff_not, beq_iff_eq, bne_iff_ne, beq_eq_false_iff_ne, bne_eq_false_iff_eq, Bool.true_and, ne_eq, Decidable.not_not, Int.not_lt, Int.not_le, Nat.not_lt, Nat.not_le, strB_nil, strB_nil', strB_nnil, strB_nnil'] at h13
                      refine run_seq ?_
                      refine run_region (q_assign .n (.c rfl) rfl <|
                          Lex.nil) ?_
                      exact run_ret [] (.cons (.t rfl rfl) .nil) rfl trivial rfl
                    · try simp only [Bool.and_eq_true, Bool.or_eq_true, Bool.not_eq_true', Bool.and_eq_false_iff, Bool.or_eq_false_iff, Bool.not_eq_false', decide_eq_true_eq, decide_eq_false_iff_not, beq_iff_eq, bne_iff_ne, beq_eq_false_iff_ne, bne_eq_false_iff_eq, Bool.true_and, ne_eq, Decidable.not_not, Int.not_lt, Int.not_le, Nat.not_lt, Nat.not_le, strB_nil, strB_nil', strB_nnil, strB_nnil'] at h13
                      refine run_skip ?_
                      refine run_seq ?_
                      refine run_region (q_move .n (.t rfl) rfl <|
                          q_callM (full := false) [] [(100, 211)] .n rfl .f en_21 (.cons (.t rfl) .nil) (.cons (.b (.a (.same rfl))) .nil) (c_laws_toSettingS aBase (by first | omega | assumption | (simp only [List.length_append, List.length_cons, List.length_nil, List.length_replicate, put_len] at * <;> omega) | (exact wr64_le) | ((simp only [toSetting_eq, toSettingS_eq] at *; omega)) | ((repeat (first | omega | refine markSettingS_le ?_))))) trivial rfl rfl (fun h => Bool.noConfusion h) (fun h => Bool.noConfusion h) rfl <|
                          q_move .n (.t rfl) rfl <|
                          q_callM (full := false) [] [(100, 212)] .n rfl .f en_21 (.cons (.t rfl) .nil) (.cons (.b (.a (.same rfl))) .nil) (c_laws_toSettingS aA (by first | omega | assumption | (simp only [List.length_append, List.length_cons, List.length_nil, List.length_replicate, put_len] at * <;> omega) | (exact wr64_le) | ((simp only [toSetting_eq, toSettingS_eq] at *; omega)) | ((repeat (first | omega | refine markSettingS_le ?_))))) trivial rfl rfl (fun h => Bool.noConfusion h) (fun h => Bool.noConfusion h) rfl <|
                          q_move .n (.t rfl) rfl <|
                          q_callM (full := false) [] [(100, 213)] .n rfl .f en_21 (.cons (.t rfl) .nil) (.cons (.b (.a (.same rfl))) .nil) (c_laws_toSettingS aB (by first | omega | assumption | (simp only [List.length_append, List.length_cons, List.length_nil, List.length_replicate, put_len] at * <;> omega) | (exact wr64_le) | ((simp only [toSetting_eq, toSettingS_eq] at *; omega)) | ((repeat (first | omega | refine markSettingS_le ?_))))) trivial rfl rfl (fun h => Bool.noConfusion h) (fun h => Bool.noConfusion h) rfl <|
                          q_callM (full := true) [] [(100, 214)] .n rfl .f en_26 (.cons (.t rfl) (.cons (.t rfl) (.cons (.t rfl) .nil))) (.cons (.b (.a (.own rfl rfl rfl (take_all (by simp only [len_map, put_len, markSettingS_len] <;> rfl)) (by simp only [len_map, put_len, markSettingS_len] <;> rfl)))) (.cons (.b (.a (.own rfl rfl rfl (take_all (by simp only [len_map, put_len, markSettingS_len] <;> rfl)) (by simp only [len_map, put_len, markSettingS_len] <;> rfl)))) (.cons (.b (.a (.own rfl rfl rfl (take_all (by simp only [len_map, put_len, markSettingS_len] <;> rfl)) (by simp only [len_map, put_len, markSettingS_len] <;> rfl)))) .nil))) (c_impl_MergeStates (m_laws_toSettingS aBase) (m_laws_toSettingS aA) (m_laws_toSettingS aB)) trivial rfl rfl (fun _ => rfl) (fun _ => (hr_row (fun _ => rfl) hr_nil)) rfl <|
                          q_move .n (.t rfl) rfl <|
                          q_ext .n (.t rfl) rfl rfl rfl <|
                          q_ext .n (.t rfl) rfl rfl rfl <|
                          q_assign .n (.t rfl) rfl <|
                          q_assign .n (.t rfl) rfl <|
                          Lex.nil) ?_
                      refine run_seq ?_
                      refine run_seq ?_
                      refine run_region (q_move .n (.t rfl) rfl <|
                          q_move .n (.t rfl) rfl <|
                          q_call0 (full := true) .n .f en_23 (.cons (.t rfl) (.cons (.t rfl) .nil)) (.cons (.b (.a (.own rfl rfl rfl (take_all (by simp only [len_map, put_len, markSettingS_len] <;> rfl)) (by simp only [len_map, put_len, markSettingS_len] <;> rfl)))) (.cons (.b (.a (.own rfl rfl rfl (take_all (by simp only [len_map, put_len, markSettingS_len] <;> rfl)) (by simp only [len_map, put_len, markSettingS_len] <;> rfl)))) .nil)) (fun hg => c_laws_eqSettingS (m_impl_MergeStates (m_laws_toSettingS aBase) (m_laws_toSettingS aA) (m_laws_toSettingS aB)).1 (m_spec_MergeStates (m_laws_toSettingS aBase) (m_laws_toSettingS aA) (m_laws_toSettingS aB)).1) rfl (fun _ => rfl) rfl <|
                          q_not .n (.t rfl) rfl <|
                          q_move .n (.t rfl) rfl <|
                          q_move (.f rfl rfl) (.t rfl) rfl <|
                          q_move (.f rfl rfl) (.t rfl) rfl <|
                          q_int (.f rfl rfl) (.u rfl id) (.u rfl id) rfl rfl <|
                          q_or .n (.t rfl) (.u rfl id) rfl <|
                          Lex.nil) ?_
                      refine run_cond (.t rfl) rfl (fun h14 => ?_) (fun h14 => ?_)
                      · try simp only [Bool.and_eq_true, Bool.or_eq_true, Bool.not_eq_true', Bool.and_eq_false_iff, Bool.or_eq_false_iff, Bool.not_eq_false', decide_eq_true_eq, decide_eq_false_iff_not, beq_iff_eq, bne_iff_ne, beq_eq_false_iff_ne, bne_eq_false_iff_eq, Bool.true_and, ne_eq, Decidable.not_not, Int.not_lt, Int.not_le, Nat.not_lt, Nat.not_le, strB_nil, strB_nil', strB_nnil, strB_nnil'] at h14
                        refine run_seq ?_
                        refine run_region (q_assign .n (.c rfl) rfl <|
                            Lex.nil) ?_
                        exact run_ret [] (.cons (.t rfl rfl) .nil) rfl trivial rfl
                      · try simp only [Bool.and_eq_true, Bool.or_eq_true, Bool.not_eq_true', Bool.and_eq_false_iff, Bool.or_eq_false_iff, Bool.not_eq_false', decide_eq_true_eq, decide_eq_false_iff_not, beq_iff_eq, bne_iff_ne, beq_eq_false_iff_ne, bne_eq_false_iff_eq, Bool.true_and, ne_eq, Decidable.not_not, Int.not_lt, Int.not_le, Nat.not_lt, Nat.not_le, strB_nil, strB_nil', strB_nnil, strB_nnil'] at h14
                        refine run_skip ?_
                        refine run_seq ?_
                        refine run_region (q_assign .n (.c rfl) rfl <|
                            Lex.nil) ?_
                        refine run_seq ?_
                        refine run_region (q_move .n (.t rfl) rfl <|
                            q_move .n (.t rfl) rfl <|
                            q_call0 (full := true) .n .f en_27 (.cons (.t rfl) (.cons (.t rfl) .nil)) (.cons (.b (.a (.own rfl rfl rfl (take_all (by simp only [len_map, put_len, markSettingS_len] <;> rfl)) (by simp only [len_map, put_len, markSettingS_len] <;> rfl)))) (.cons (.b (.a (.same rfl))) .nil)) (fun hg => c_laws_heldSettingS (m_laws_markSettingS (m_impl_MergeStates (m_laws_toSettingS aBase) (m_laws_toSettingS aA) (m_laws_toSettingS aB)).1 1).2 1 (by first | omega | assumption | (simp only [List.length_append, List.length_cons, List.length_nil, List.length_replicate, put_len] at * <;> omega) | (exact wr64_le) | ((simp only [toSetting_eq, toSettingS_eq] at *; omega)) | ((repeat (first | omega | refine markSettingS_le ?_))))) rfl (fun _ => rfl) rfl <|
                            q_assign .n (.t rfl) rfl <|
                            Lex.nil) ?_
                        refine run_seq ?_
                        refine run_seq ?_
                        refine run_region (q_move .n (.t rfl) rfl <|
                            q_int .n (.t rfl) (.c rfl) rfl rfl <|
                            Lex.nil) ?_
                        refine run_cond (.t rfl) rfl (fun h15 => ?_) (fun h15 => ?_)
                        · try simp only [Bool.and_eq_true, Bool.or_eq_true, Bool.not_eq_true', Bool.and_eq_false_iff, Bool.or_eq_false_iff, Bool.not_eq_false', decide_eq_true_eq, decide_eq_false_iff_not, beq_iff_eq, bne_iff_ne, beq_eq_false_iff_ne, bne_eq_false_iff_eq, Bool.true_and, ne_eq, Decidable.not_not, Int.not_lt, Int.not_le, Nat.not_lt, Nat.not_le, strB_nil, strB_nil', strB_nnil, strB_nnil'] at h15
                          refine run_seq ?_
                          refine run_region (q_assign .n (.c rfl) rfl <|
                              Lex.nil) ?_
                          exact run_ret [] (.cons (.t rfl rfl) .nil) rfl trivial rfl
                        · try simp only [Bool.and_eq_true, Bool.or_eq_true, Bool.not_eq_true', Bool.and_eq_false_iff, Bool.or_eq_false_iff, Bool.not_eq_false', decide_eq_true_eq, decide_eq_false_iff_not, beq_iff_eq, bne_iff_ne, beq_eq_false_iff_ne, bne_eq_false_iff_eq, Bool.true_and, ne_eq, Decidable.not_not, Int.not_lt, Int.not_le, Nat.not_lt, Nat.not_le, strB_nil, strB_nil', strB_nnil, strB_nnil'] at h15
                          refine run_skip ?_
                          refine run_seq ?_
                          refine run_seq ?_
                          refine run_region (q_move .n (.t rfl) rfl <|
                              q_move .n (.t rfl) rfl <|
                              q_int .n (.t rfl) (.t rfl) rfl rfl <|
                              Lex.nil) ?_
                          refine run_cond (.t rfl) rfl (fun h16 => ?_) (fun h16 => ?_)
                          · try simp only [Bool.and_eq_true, Bool.or_eq_true, Bool.not_eq_true', Bool.and_eq_false_iff, Bool.or_eq_false_iff, Bool.not_eq_false', decide_eq_true_eq, decide_eq_false_iff_not, beq_iff_eq, bne_iff_ne, beq_eq_false_iff_ne, bne_eq_false_iff_eq, Bool.true_and, ne_eq, Decidable.not_not, Int.not_lt, Int.not_le, Nat.not_lt, Nat.not_le, strB_nil, strB_nil', strB_nnil, strB_nnil'] at h16
                            refine run_seq ?_
                            refine run_region (q_assign .n (.c rfl) rfl <|
                                Lex.nil) ?_
                            exact run_ret [] (.cons (.t rfl rfl) .nil) rfl trivial rfl
                          · try simp only [Bool.and_eq_true, Bool.or_eq_true, Bool.not_eq_true', Bool.and_eq_false_iff, Bool.or_eq_false_iff, Bool.not_eq_false', decide_eq_true_eq, decide_eq_false_iff_not, beq_iff_eq, bne_iff_ne, beq_eq_false_iff_ne, bne_eq_false_iff_eq, Bool.true_and, ne_eq, Decidable.not_not, Int.not_lt, Int.not_le, Nat.not_lt, Nat.not_le, strB_nil, strB_nil', strB_nnil, strB_nnil'] at h16
                            refine run_skip ?_
                            refine run_seq ?_
                            refine run_region (q_assign .n (.c rfl) rfl <|
                                Lex.nil) ?_
                            exact run_ret [] (.cons (.t rfl rfl) .nil) rfl trivial rfl

end Go.Proofs.Ytdhehmaglhobjaa
