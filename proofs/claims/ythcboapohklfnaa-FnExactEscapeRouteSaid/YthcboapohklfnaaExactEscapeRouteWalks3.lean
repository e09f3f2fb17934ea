/-
  THE WALKS: each Go function computes its model. Conditions: as each theorem states them (hp1, hp2 ..).
-/
import Derived.Test.YthcboapohklfnaaExactEscapeRouteWalks2
set_option linter.unusedVariables false
set_option linter.unusedSimpArgs false
set_option linter.unusedSectionVars false
set_option linter.unnecessarySimpa false
namespace Go.Proofs.Ythcboapohklfnaa
open Go Go.RowKit Go.Proofs Go.Proofs.Ythcboapohklfnaa.E
/-! ### impl_ValidCrews -/
theorem c_impl_ValidCrews (m_ : gMine) (list : List gCrew) : Con Try.prog 79 [.st [.int .i64 m_.Junctions, .sl 7 (m_.Airways.map gAirway.v)], .sl 3 (list.map gCrew.v)] [] (.bool (m_impl_ValidCrews m_ list)) ([]) := by
  refine con_intro (out := fun r : Bool => ((.bool r : V), ([] : List (Nat × Option O)))) (r := (m_impl_ValidCrews m_ list)) Try.func79 rfl Try.ntmps79 rfl ?_
  refine run_factS (t := 0) 1 rfl rfl fun hl => ?_
  have l1 := hl; clear hl; simp only [List.length_map] at l1
  refine run_fact (t := 1) rfl fun hl => ?_
  have l2 := hl; clear hl; simp only [List.length_map] at l2
  refine run_seq ?_
  refine run_region (q_box (l := 200) .n rfl (.t rfl) rfl rfl rfl rfl <|
      q_assign .n (.c rfl) rfl <|
      Lex.nil) ?_
  refine run_seq ?_
  refine run_seq ?_
  refine run_region (q_ldN_ow .n (.t rfl) rfl (.inr rfl) ag_34 (fun _ => rfl) rfl rfl <|
      q_call0 (full := false) .n .f en_90 (.cons (.t rfl) .nil) (.cons (.sts rfl) .nil) (fun hg => c_impl_ValidMine m_) rfl (fun h => Bool.noConfusion h) rfl <|
      q_not .n (.t rfl) rfl <|
      q_move .n (.t rfl) rfl <|
      q_move (.f rfl rfl) (.t rfl) rfl <|
      q_len (.f rfl rfl) (.u rfl id) rfl len_map ss_47 rfl <|
      q_int (.f rfl rfl) (.u rfl id) (.c rfl) rfl rfl <|
      q_or .n (.t rfl) (.u rfl id) rfl <|
      Lex.nil) ?_
  refine run_cond (.t rfl) rfl (fun h3 => ?_) (fun h3 => ?_)
  · try simp only [Bool.and_eq_true, Bool.or_eq_true, Bool.not_eq_true', Bool.and_eq_false_iff, Bool.or_eq_false_iff, Bool.not_eq_false', decide_eq_true_eq, decide_eq_false_iff_not, beq_iff_eq, bne_iff_ne, beq_eq_false_iff_ne, bne_eq_false_iff_eq, Bool.true_and, ne_eq, Decidable.not_not, Int.not_lt, Int.not_le, Nat.not_lt, Nat.not_le, strB_nil, strB_nil', strB_nnil, strB_nnil'] at h3
    try have hf0h3 := ValidMine_imp h3
    try have hf1h3 := ValidMine_imp h3.1
    try have hf2h3 := ValidMine_imp h3.2
    try have hf3h3 := ValidMine_imp h3.1.1
    try have hf4h3 := ValidMine_imp h3.1.2
    try have hf5h3 := ValidMine_imp h3.2.1
    try have hf6h3 := ValidMine_imp h3.2.2
    refine run_seq ?_
    refine run_region (q_assign .n (.c rfl) rfl <|
        Lex.nil) ?_
    exact run_ret [] (.cons (.t rfl rfl) .nil) rfl trivial rfl
  · try simp only [Bool.and_eq_true, Bool.or_eq_true, Bool.not_eq_true', Bool.and_eq_false_iff, Bool.or_eq_false_iff, Bool.not_eq_false', decide_eq_true_eq, decide_eq_false_iff_not, beq_iff_eq, bne_iff_ne, beq_eq_false_iff_ne, bne_eq_false_iff_eq, Bool.true_and, ne_eq, Decidable.not_not, Int.not_lt, Int.not_le, Nat.not_lt, Nat.not_le, strB_nil, strB_nil', strB_nnil, strB_nnil'] at h3
    try have hf0h3 := ValidMine_imp h3
    try have hf1h3 := ValidMine_imp h3.1
    try have hf2h3 := ValidMine_imp h3.2
    try have hf3h3 := ValidMine_imp h3.1.1
    try have hf4h3 := ValidMine_imp h3.1.2
    try have hf5h3 := ValidMine_imp h3.2.1
    try have hf6h3 := ValidMine_imp h3.2.2
    refine run_skip ?_
    refine run_seq ?_
    refine run_seq ?_
    refine run_region (q_move .n (.t rfl) rfl <|
        q_len .n (.t rfl) rfl len_map ss_47 rfl <|
        q_move .n (.c rfl) rfl <|
        Lex.nil) ?_
    refine run_block ?_
    refine run_LOOP (m_impl_ValidCrews_b1 m_ list) _ _ _ rfl (fun (x1 : Int) => 0 ≤ x1 ∧ x1 ≤ (list.length : Int)) (fun x1 => 0 ≤ x1 ∧ x1 ≤ (list.length : Int) ∧ (list.length : Int) ≤ x1) (fun x1 => ((list.length : Int) - x1 : Int).toNat) (fun x1 => ⟨[(1, some (true, .sl 3 (list.map gCrew.v))), (2, some (true, .op 200 0 0 0)), (15, some (true, .sl 3 (list.map gCrew.v))), (16, some (true, .int .i64 (list.length : Int))), (17, some (true, .int .i64 x1))], [(200, some (.box 34 [.int .i64 m_.Junctions, .sl 7 (m_.Airways.map gAirway.v)]))]⟩) (fun x1 => ⟨[], []⟩) ⟨by first | omega | assumption | (simp only [List.length_append, List.length_cons, List.length_nil, List.length_replicate, put_len] at * <;> omega), by first | omega | assumption | (simp only [List.length_append, List.length_cons, List.length_nil, List.length_replicate, put_len] at * <;> omega)⟩ (by first | omega | assumption | (simp only [List.length_append, List.length_cons, List.length_nil, List.length_replicate, put_len] at * <;> omega)) (sub_of [] ⟨rfl, rfl, rfl, rfl, rfl, trivial⟩ ⟨rfl, trivial⟩ rfl) ?_ ?_
    · intro x1 i8
      obtain ⟨e9, e10, e11⟩ := i8
      try dsimp only at *
      refine run_seq ?_
      refine run_region (q_assign .n (.c rfl) rfl <|
          Lex.nil) ?_
      exact run_ret [] (.cons (.t rfl rfl) .nil) rfl trivial rfl
    · intro rec1 k1 hk4 x1 i5
      obtain ⟨e12, e13⟩ := i5
      try dsimp only at *
      refine run_seq ?_
      refine run_region (q_int .n (.t rfl) (.t rfl) rfl rfl <|
          Lex.nil) ?_
      refine run_seq ?_
      refine run_cond (.t rfl) rfl (fun h6 => ?_) (fun h6 => ?_)
      · try simp only [Bool.and_eq_true, Bool.or_eq_true, Bool.not_eq_true', Bool.and_eq_false_iff, Bool.or_eq_false_iff, Bool.not_eq_false', decide_eq_true_eq, decide_eq_false_iff_not, beq_iff_eq, bne_iff_ne, beq_eq_false_iff_ne, bne_eq_false_iff_eq, Bool.true_and, ne_eq, Decidable.not_not, Int.not_lt, Int.not_le, Nat.not_lt, Nat.not_le, strB_nil, strB_nil', strB_nnil, strB_nnil'] at h6
        refine run_skip ?_
        refine run_seq ?_
        refine run_block ?_
        refine run_seq ?_
        refine run_region (q_move .n (.t rfl) rfl <|
            q_idx_rm .n (.t rfl) (.t rfl) sl_47 (fun _ => by first | omega | assumption | (simp only [List.length_append, List.length_cons, List.length_nil, List.length_replicate, put_len] at * <;> omega)) rfl <|
            q_ldN_ro .n (.t rfl) ag_37 rfl rfl rfl <|
            q_alloc (l := 201) .n rfl zv_37 rfl rfl <|
            q_assign .n (.t rfl) rfl <|
            q_st_boxm [.str (at' list x1).Id, .int .i64 (at' list x1).Junction, .int .i64 (at' list x1).Speed] .n rfl (.t rfl) (.t rfl) rfl ts_37 rfl rfl <|
            Lex.nil) ?_
        refine run_seq ?_
        refine run_draw fmo (q_ldN_ow .n (.t rfl) rfl (.inr rfl) ag_37 (fun _ => rfl) rfl rfl <|
            q_call0 (full := false) .n .f en_100 (.cons (.t rfl) .nil) (.cons (.sts rfl) .nil) (fun hg => c_impl_Crew_valid (at' list x1)) rfl (fun h => Bool.noConfusion h) rfl <|
            q_not .n (.t rfl) rfl <|
            q_move .n (.t rfl) rfl <|
            q_ldN_ow (.f rfl rfl) (.t rfl) rfl (.inr rfl) ag_34 (fun _ => rfl) rfl rfl <|
            q_fld_ow (.f rfl rfl) (.t rfl) fo_37_1 rfl <|
            q_ld1_ow (.f rfl rfl) (.u rfl id) rfl (.inr rfl) (fun _ => rfl) rfl ic_2 rfl <|
            q_call0 (full := false) (.f rfl rfl) .f en_92 (.cons (.u rfl id) (.cons (.u rfl id) .nil)) (.cons (.sts rfl) (.cons (.b (.a (.same rfl))) .nil)) (fun hg => c_impl_Mine_hasJunction m_ (at' list x1).Junction) rfl (fun h => Bool.noConfusion h) rfl <|
            q_not (.f rfl rfl) (.u rfl id) rfl <|
            q_or .n (.t rfl) (.u rfl id) rfl <|
            q_move .n (.t rfl) rfl <|
            q_move (.f rfl rfl) (.t rfl) rfl <|
            q_int (.f rfl rfl) (.u rfl id) (.c rfl) rfl rfl <|
            q_move (.f rfl rfl) (.u rfl id) rfl <|
            q_fld_ow (.t rfl rfl) (.t rfl) fo_37_0 rfl <|
            q_ld1_ow (.t rfl rfl) (.u rfl id) rfl (.inr rfl) (fun _ => rfl) rfl ic_9 rfl <|
            q_move (.t rfl rfl) (.t rfl) rfl <|
            q_move (.t rfl rfl) (.t rfl) rfl <|
            q_sub (.t rfl rfl) (.u rfl id) (.c rfl) (fun hg => by simp only [Bool.and_eq_true, Bool.or_eq_true, Bool.not_eq_true', Bool.and_eq_false_iff, Bool.or_eq_false_iff, Bool.not_eq_false', decide_eq_true_eq, decide_eq_false_iff_not, beq_iff_eq, bne_iff_ne, beq_eq_false_iff_ne, bne_eq_false_iff_eq, Bool.true_and, ne_eq, Decidable.not_not, Int.not_lt, Int.not_le, Nat.not_lt, Nat.not_le, strB_nil, strB_nil', strB_nnil, strB_nnil'] at hg; first | omega | assumption | (simp only [List.length_append, List.length_cons, List.length_nil, List.length_replicate, put_len] at * <;> omega)) rfl <|
            q_idx_rm (.t rfl rfl) (.u rfl id) (.u rfl id) sl_47 (fun hg => by simp only [Bool.and_eq_true, Bool.or_eq_true, Bool.not_eq_true', Bool.and_eq_false_iff, Bool.or_eq_false_iff, Bool.not_eq_false', decide_eq_true_eq, decide_eq_false_iff_not, beq_iff_eq, bne_iff_ne, beq_eq_false_iff_ne, bne_eq_false_iff_eq, Bool.true_and, ne_eq, Decidable.not_not, Int.not_lt, Int.not_le, Nat.not_lt, Nat.not_le, strB_nil, strB_nil', strB_nnil, strB_nnil'] at hg; first | omega | assumption | (simp only [List.length_append, List.length_cons, List.length_nil, List.length_replicate, put_len] at * <;> omega)) rfl <|
            q_fld_ro (.t rfl rfl) (.u rfl id) fo_37_0 rfl <|
            q_ld1_ro (.t rfl rfl) (.u rfl id) rfl ic_9 rfl <|
            q_strcmp (.t rfl rfl) (.u rfl id) (.u rfl id) rfl rfl <|
            q_and (.f rfl rfl) (.u rfl id) (.u rfl id) rfl <|
            q_or .n (.t rfl) (.u rfl id) rfl <|
            Lex.nil) (by kernel_rfl) ?_
        refine run_cond (.t rfl) rfl (fun h7 => ?_) (fun h7 => ?_)
        · try simp only [Bool.and_eq_true, Bool.or_eq_true, Bool.not_eq_true', Bool.and_eq_false_iff, Bool.or_eq_false_iff, Bool.not_eq_false', decide_eq_true_eq, decide_eq_false_iff_not, beq_iff_eq, bne_iff_ne, beq_eq_false_iff_ne, bne_eq_false_iff_eq, Bool.true_and, ne_eq, Decidable.not_not, Int.not_lt, Int.not_le, Nat.not_lt, Nat.not_le, strB_nil, strB_nil', strB_nnil, strB_nnil'] at h7
          refine run_seq ?_
          refine run_region (q_assign .n (.c rfl) rfl <|
              Lex.nil) ?_
          exact run_ret [] (.cons (.t rfl rfl) .nil) rfl trivial rfl
        · try simp only [Bool.and_eq_true, Bool.or_eq_true, Bool.not_eq_true', Bool.and_eq_false_iff, Bool.or_eq_false_iff, Bool.not_eq_false', decide_eq_true_eq, decide_eq_false_iff_not, beq_iff_eq, bne_iff_ne, beq_eq_false_iff_ne, bne_eq_false_iff_eq, Bool.true_and, ne_eq, Decidable.not_not, Int.not_lt, Int.not_le, Nat.not_lt, Nat.not_le, strB_nil, strB_nil', strB_nnil, strB_nnil'] at h7
          refine run_skip ?_
          refine run_endB ?_
          refine run_region (q_add .n (.t rfl) (.c rfl) (fun _ => by first | omega | assumption | (simp only [List.length_append, List.length_cons, List.length_nil, List.length_replicate, put_len] at * <;> omega)) rfl <|
              q_move .n (.t rfl) rfl <|
              Lex.nil) ?_
          exact run_again (x1 + 1) ⟨by first | omega | assumption | (simp only [List.length_append, List.length_cons, List.length_nil, List.length_replicate, put_len] at * <;> omega), by first | omega | assumption | (simp only [List.length_append, List.length_cons, List.length_nil, List.length_replicate, put_len] at * <;> omega)⟩ (by first | omega | assumption | (simp only [List.length_append, List.length_cons, List.length_nil, List.length_replicate, put_len] at * <;> omega)) (sub_of [] ⟨rfl, rfl, rfl, rfl, rfl, trivial⟩ ⟨rfl, trivial⟩ rfl)
      · try simp only [Bool.and_eq_true, Bool.or_eq_true, Bool.not_eq_true', Bool.and_eq_false_iff, Bool.or_eq_false_iff, Bool.not_eq_false', decide_eq_true_eq, decide_eq_false_iff_not, beq_iff_eq, bne_iff_ne, beq_eq_false_iff_ne, bne_eq_false_iff_eq, Bool.true_and, ne_eq, Decidable.not_not, Int.not_lt, Int.not_le, Nat.not_lt, Nat.not_le, strB_nil, strB_nil', strB_nnil, strB_nnil'] at h6
        refine run_exit rfl ?_
        exact run_cont hk4 x1 ⟨by first | omega | assumption | (simp only [List.length_append, List.length_cons, List.length_nil, List.length_replicate, put_len] at * <;> omega), by first | omega | assumption | (simp only [List.length_append, List.length_cons, List.length_nil, List.length_replicate, put_len] at * <;> omega), by first | omega | assumption | (simp only [List.length_append, List.length_cons, List.length_nil, List.length_replicate, put_len] at * <;> omega)⟩ (sub_of [] trivial trivial rfl)

/-! ### slices_IndexFunc_int64 -/
theorem c_slices_IndexFunc_int64 (s_ : List Int) (f : Int → Bool) (F_f : FuncId) (C_f : List V) (he_f : entB Try.prog F_f = true) (hr_f : C_f.all V.ro = true) (hc_f : ∀ (a0 : Int), Con Try.prog F_f ([.int .i64 a0] ++ C_f) [] (.bool (f a0)) []) : Con Try.prog 120 [.sl 1 (s_.map (V.int .i64)), .clo F_f C_f] [] (.int .i64 (m_slices_IndexFunc_int64 s_ f)) ([]) := by
  refine con_intro (out := fun r : Int => ((.int .i64 r : V), ([] : List (Nat × Option O)))) (r := (m_slices_IndexFunc_int64 s_ f)) Try.func120 rfl Try.ntmps120 rfl ?_
  refine run_fact (t := 0) rfl fun hl => ?_
  have l1 := hl; clear hl; simp only [List.length_map] at l1
  refine run_seq ?_
  refine run_region (q_assign .n (.c rfl) rfl <|
      Lex.nil) ?_
  refine run_seq ?_
  refine run_seq ?_
  refine run_region (q_move .n (.t rfl) rfl <|
      q_len .n (.t rfl) rfl len_map ss_25 rfl <|
      q_move .n (.c rfl) rfl <|
      Lex.nil) ?_
  refine run_block ?_
  refine run_LOOP (m_slices_IndexFunc_int64_b1 s_ f) _ _ _ rfl (fun (x1 : Int) => 0 ≤ x1 ∧ x1 ≤ (s_.length : Int)) (fun x1 => 0 ≤ x1 ∧ x1 ≤ (s_.length : Int) ∧ (s_.length : Int) ≤ x1) (fun x1 => ((s_.length : Int) - x1 : Int).toNat) (fun x1 => ⟨[(0, some (true, .sl 1 (s_.map (V.int .i64)))), (1, some (true, .clo F_f C_f)), (7, some (true, .int .i64 (s_.length : Int))), (8, some (true, .int .i64 x1))], []⟩) (fun x1 => ⟨[], []⟩) ⟨by first | omega | assumption | (simp only [List.length_append, List.length_cons, List.length_nil, List.length_replicate, put_len] at * <;> omega), by first | omega | assumption | (simp only [List.length_append, List.length_cons, List.length_nil, List.length_replicate, put_len] at * <;> omega)⟩ (by first | omega | assumption | (simp only [List.length_append, List.length_cons, List.length_nil, List.length_replicate, put_len] at * <;> omega)) (sub_of [] ⟨rfl, clo_ren hr_f rfl, rfl, rfl, trivial⟩ trivial rfl) ?_ ?_
  · intro x1 i6
    obtain ⟨e7, e8, e9⟩ := i6
    try dsimp only at *
    refine run_seq ?_
    refine run_region (q_assign .n (.c rfl) rfl <|
        Lex.nil) ?_
    exact run_ret [] (.cons (.t rfl rfl) .nil) rfl trivial rfl
  · intro rec1 k1 hk2 x1 i3
    obtain ⟨e10, e11⟩ := i3
    try dsimp only at *
    refine run_seq ?_
    refine run_region (q_int .n (.t rfl) (.t rfl) rfl rfl <|
        Lex.nil) ?_
    refine run_seq ?_
    refine run_cond (.t rfl) rfl (fun h4 => ?_) (fun h4 => ?_)
    · try simp only [Bool.and_eq_true, Bool.or_eq_true, Bool.not_eq_true', Bool.and_eq_false_iff, Bool.or_eq_false_iff, Bool.not_eq_false', decide_eq_true_eq, decide_eq_false_iff_not, beq_iff_eq, bne_iff_ne, beq_eq_false_iff_ne, bne_eq_false_iff_eq, Bool.true_and, ne_eq, Decidable.not_not, Int.not_lt, Int.not_le, Nat.not_lt, Nat.not_le, strB_nil, strB_nil', strB_nnil, strB_nnil'] at h4
      refine run_skip ?_
      refine run_seq ?_
      refine run_block ?_
      refine run_seq ?_
      refine run_region (q_move .n (.t rfl) rfl <|
          q_assign .n (.t rfl) rfl <|
          Lex.nil) ?_
      refine run_seq ?_
      refine run_region (q_move .n (.t rfl) rfl <|
          q_move .n (.t rfl) rfl <|
          q_move .n (.t rfl) rfl <|
          q_idx_rm .n (.t rfl) (.t rfl) sl_25 (fun _ => by first | omega | assumption | (simp only [List.length_append, List.length_cons, List.length_nil, List.length_replicate, put_len] at * <;> omega)) rfl <|
          q_ld1_ro .n (.t rfl) rfl ic_2 rfl <|
          q_call0 (full := false) .n (.c (.t rfl)) he_f (.cons (.t rfl) .nil) (passes_app hr_f (.cons (.b (.a (.same rfl))) .nil)) (fun hg => hc_f (at' s_ x1)) rfl (fun h => Bool.noConfusion h) rfl <|
          Lex.nil) ?_
      refine run_cond (.t rfl) rfl (fun h5 => ?_) (fun h5 => ?_)
      · try simp only [Bool.and_eq_true, Bool.or_eq_true, Bool.not_eq_true', Bool.and_eq_false_iff, Bool.or_eq_false_iff, Bool.not_eq_false', decide_eq_true_eq, decide_eq_false_iff_not, beq_iff_eq, bne_iff_ne, beq_eq_false_iff_ne, bne_eq_false_iff_eq, Bool.true_and, ne_eq, Decidable.not_not, Int.not_lt, Int.not_le, Nat.not_lt, Nat.not_le, strB_nil, strB_nil', strB_nnil, strB_nnil'] at h5
        refine run_seq ?_
        refine run_region (q_move .n (.t rfl) rfl <|
            q_assign .n (.t rfl) rfl <|
            Lex.nil) ?_
        exact run_ret [] (.cons (.t rfl rfl) .nil) rfl trivial rfl
      · try simp only [Bool.and_eq_true, Bool.or_eq_true, Bool.not_eq_true', Bool.and_eq_false_iff, Bool.or_eq_false_iff, Bool.not_eq_false', decide_eq_true_eq, decide_eq_false_iff_not, beq_iff_eq, bne_iff_ne, beq_eq_false_iff_ne, bne_eq_false_iff_eq, Bool.true_and, ne_eq, Decidable.not_not, Int.not_lt, Int.not_le, Nat.not_lt, Nat.not_le, strB_nil, strB_nil', strB_nnil, strB_nnil'] at h5
        refine run_skip ?_
        refine run_endB ?_
        refine run_region (q_add .n (.t rfl) (.c rfl) (fun _ => by first | omega | assumption | (simp only [List.length_append, List.length_cons, List.length_nil, List.length_replicate, put_len] at * <;> omega)) rfl <|
            q_move .n (.t rfl) rfl <|
            Lex.nil) ?_
        exact run_again (x1 + 1) ⟨by first | omega | assumption | (simp only [List.length_append, List.length_cons, List.length_nil, List.length_replicate, put_len] at * <;> omega), by first | omega | assumption | (simp only [List.length_append, List.length_cons, List.length_nil, List.length_replicate, put_len] at * <;> omega)⟩ (by first | omega | assumption | (simp only [List.length_append, List.length_cons, List.length_nil, List.length_replicate, put_len] at * <;> omega)) (sub_of [] ⟨rfl, clo_ren hr_f rfl, rfl, rfl, trivial⟩ trivial rfl)
    · try simp only [Bool.and_eq_true, Bool.or_eq_true, Bool.not_eq_true', Bool.and_eq_false_iff, Bool.or_eq_false_iff, Bool.not_eq_false', decide_eq_true_eq, decide_eq_false_iff_not, beq_iff_eq, bne_iff_ne, beq_eq_false_iff_ne, bne_eq_false_iff_eq, Bool.true_and, ne_eq, Decidable.not_not, Int.not_lt, Int.not_le, Nat.not_lt, Nat.not_le, strB_nil, strB_nil', strB_nnil, strB_nnil'] at h4
      refine run_exit rfl ?_
      exact run_cont hk2 x1 ⟨by first | omega | assumption | (simp only [List.length_append, List.length_cons, List.length_nil, List.length_replicate, put_len] at * <;> omega), by first | omega | assumption | (simp only [List.length_append, List.length_cons, List.length_nil, List.length_replicate, put_len] at * <;> omega), by first | omega | assumption | (simp only [List.length_append, List.length_cons, List.length_nil, List.length_replicate, put_len] at * <;> omega)⟩ (sub_of [] trivial trivial rfl)

/-! ### slices_ContainsFunc_int64 -/
theorem c_slices_ContainsFunc_int64 (s_ : List Int) (f : Int → Bool) (F_f : FuncId) (C_f : List V) (he_f : entB Try.prog F_f = true) (hr_f : C_f.all V.ro = true) (hc_f : ∀ (a0 : Int), Con Try.prog F_f ([.int .i64 a0] ++ C_f) [] (.bool (f a0)) []) : Con Try.prog 101 [.sl 1 (s_.map (V.int .i64)), .clo F_f C_f] [] (.bool (m_slices_ContainsFunc_int64 s_ f)) ([]) := by
  refine con_intro (out := fun r : Bool => ((.bool r : V), ([] : List (Nat × Option O)))) (r := (m_slices_ContainsFunc_int64 s_ f)) Try.func101 rfl Try.ntmps101 rfl ?_
  refine run_fact (t := 0) rfl fun hl => ?_
  have l1 := hl; clear hl; simp only [List.length_map] at l1
  refine run_seq ?_
  refine run_region (q_assign .n (.c rfl) rfl <|
      Lex.nil) ?_
  refine run_seq ?_
  refine run_region (q_move .n (.t rfl) rfl <|
      q_move .n (.t rfl) rfl <|
      q_call0 (full := false) .n .f en_120 (.cons (.t rfl) (.cons (.t rfl) .nil)) (.cons (.b (.a (.same rfl))) (.cons (.clo (passBs_ro hr_f)) .nil)) (fun hg => c_slices_IndexFunc_int64 s_ f F_f C_f he_f hr_f hc_f) rfl (fun h => Bool.noConfusion h) rfl <|
      q_int .n (.t rfl) (.c rfl) rfl rfl <|
      q_assign .n (.t rfl) rfl <|
      Lex.nil) ?_
  exact run_ret [] (.cons (.t rfl rfl) .nil) rfl trivial rfl

/-! ### impl_allWithin_1 -/
theorem c_impl_allWithin_1 (n_ : Int) (p1 : Int) (p2 : Int) : Con Try.prog 102 [.int .i64 n_, .rp [.int .i64 p1], .rp [.int .i64 p2]] [] (.bool (m_impl_allWithin_1 n_ p1 p2)) ([]) := by
  refine con_intro (out := fun r : Bool => ((.bool r : V), ([] : List (Nat × Option O)))) (r := (m_impl_allWithin_1 n_ p1 p2)) Try.func102 rfl Try.ntmps102 rfl ?_
  refine run_seq ?_
  refine run_region (q_assign .n (.c rfl) rfl <|
      Lex.nil) ?_
  refine run_seq ?_
  refine run_region (q_move .n (.t rfl) rfl <|
      q_ld1_ro .n (.t rfl) rfl ic_2 rfl <|
      q_ld1_ro .n (.t rfl) rfl ic_2 rfl <|
      q_call0 (full := false) .n .f en_80 (.cons (.t rfl) (.cons (.t rfl) (.cons (.t rfl) .nil))) (.cons (.b (.a (.same rfl))) (.cons (.b (.a (.same rfl))) (.cons (.b (.a (.same rfl))) .nil))) (fun hg => c_impl_within n_ p1 p2) rfl (fun h => Bool.noConfusion h) rfl <|
      q_not .n (.t rfl) rfl <|
      q_assign .n (.t rfl) rfl <|
      Lex.nil) ?_
  exact run_ret [] (.cons (.t rfl rfl) .nil) rfl trivial rfl

/-! ### impl_allWithin -/
theorem c_impl_allWithin (list : List Int) (low : Int) (high : Int) : Con Try.prog 81 [.sl 1 (list.map (V.int .i64)), .int .i64 low, .int .i64 high] [] (.bool (m_impl_allWithin list low high)) ([]) := by
  refine con_intro (out := fun r : Bool => ((.bool r : V), ([] : List (Nat × Option O)))) (r := (m_impl_allWithin list low high)) Try.func81 rfl Try.ntmps81 rfl ?_
  refine run_fact (t := 0) rfl fun hl => ?_
  have l1 := hl; clear hl; simp only [List.length_map] at l1
  refine run_seq ?_
  refine run_region (q_box (l := 200) .n rfl (.t rfl) rfl rfl rfl rfl <|
      q_box (l := 201) .n rfl (.t rfl) rfl rfl rfl rfl <|
      q_assign .n (.c rfl) rfl <|
      Lex.nil) ?_
  refine run_seq ?_
  refine run_region (q_move .n (.t rfl) rfl <|
      q_clo .n (.cons (.t rfl) (.cons (.t rfl) .nil)) rfl rfl <|
      q_call0 (full := true) .n .f en_101 (.cons (.t rfl) (.cons (.t rfl) .nil)) (.cons (.b (.a (.same rfl))) (.cons (.clo (.cons (.ptr rfl rfl (.inr rfl) rfl rfl (.cons (.same rfl) .nil)) (.cons (.ptr rfl rfl (.inr rfl) rfl rfl (.cons (.same rfl) .nil)) .nil))) .nil)) (fun hg => c_slices_ContainsFunc_int64 list (fun (a0 : Int) => m_impl_allWithin_1 a0 low high) 102 [.rp [.int .i64 low], .rp [.int .i64 high]] en_102 rfl (fun a0 => c_impl_allWithin_1 a0 low high)) rfl (fun _ => rfl) rfl <|
      q_not .n (.t rfl) rfl <|
      q_assign .n (.t rfl) rfl <|
      Lex.nil) ?_
  exact run_ret [] (.cons (.t rfl rfl) .nil) rfl trivial rfl

/-! ### impl_increasing -/
theorem c_impl_increasing (list : List Int) : Con Try.prog 103 [.sl 1 (list.map (V.int .i64))] [] (.bool (m_impl_increasing list)) ([]) := by
  refine con_intro (out := fun r : Bool => ((.bool r : V), ([] : List (Nat × Option O)))) (r := (m_impl_increasing list)) Try.func103 rfl Try.ntmps103 rfl ?_
  refine run_fact (t := 0) rfl fun hl => ?_
  have l1 := hl; clear hl; simp only [List.length_map] at l1
  refine run_seq ?_
  refine run_region (q_assign .n (.c rfl) rfl <|
      Lex.nil) ?_
  refine run_seq ?_
  refine run_seq ?_
  refine run_region (q_assign .n (.c rfl) rfl <|
      Lex.nil) ?_
  refine run_block ?_
  refine run_LOOP (m_impl_increasing_b1 list) _ _ _ rfl (fun (x1 : Int) => 1 ≤ x1) (fun x1 => 1 ≤ x1) (fun x1 => ((list.length : Int) - x1 : Int).toNat) (fun x1 => ⟨[(0, some (true, .sl 1 (list.map (V.int .i64)))), (3, some (true, .int .i64 x1))], []⟩) (fun x1 => ⟨[], []⟩) (by first | omega | assumption | (simp only [List.length_append, List.length_cons, List.length_nil, List.length_replicate, put_len] at * <;> omega)) (by first | omega | assumption | (simp only [List.length_append, List.length_cons, List.length_nil, List.length_replicate, put_len] at * <;> omega)) (sub_of [] ⟨rfl, rfl, trivial⟩ trivial rfl) ?_ ?_
  · intro x1 i6
    have e7 := i6
    try dsimp only at *
    refine run_seq ?_
    refine run_region (q_assign .n (.c rfl) rfl <|
        Lex.nil) ?_
    exact run_ret [] (.cons (.t rfl rfl) .nil) rfl trivial rfl
  · intro rec1 k1 hk2 x1 i3
    have e8 := i3
    try dsimp only at *
    refine run_seq ?_
    refine run_seq ?_
    refine run_region (q_move .n (.t rfl) rfl <|
        q_move .n (.t rfl) rfl <|
        q_len .n (.t rfl) rfl len_map ss_25 rfl <|
        q_int .n (.t rfl) (.t rfl) rfl rfl <|
        Lex.nil) ?_
    refine run_cond (.t rfl) rfl (fun h4 => ?_) (fun h4 => ?_)
    · try simp only [Bool.and_eq_true, Bool.or_eq_true, Bool.not_eq_true', Bool.and_eq_false_iff, Bool.or_eq_false_iff, Bool.not_eq_false', decide_eq_true_eq, decide_eq_false_iff_not, beq_iff_eq, bne_iff_ne, beq_eq_false_iff_ne, bne_eq_false_iff_eq, Bool.true_and, ne_eq, Decidable.not_not, Int.not_lt, Int.not_le, Nat.not_lt, Nat.not_le, strB_nil, strB_nil', strB_nnil, strB_nnil'] at h4
      refine run_skip ?_
      refine run_seq ?_
      refine run_block ?_
      refine run_seq ?_
      refine run_draw fmo (q_move .n (.t rfl) rfl <|
          q_move .n (.t rfl) rfl <|
          q_idx_rm .n (.t rfl) (.t rfl) sl_25 (fun _ => by first | omega | assumption | (simp only [List.length_append, List.length_cons, List.length_nil, List.length_replicate, put_len] at * <;> omega)) rfl <|
          q_ld1_ro .n (.t rfl) rfl ic_2 rfl <|
          q_move .n (.t rfl) rfl <|
          q_move .n (.t rfl) rfl <|
          q_sub .n (.t rfl) (.c rfl) (fun _ => by first | omega | assumption | (simp only [List.length_append, List.length_cons, List.length_nil, List.length_replicate, put_len] at * <;> omega)) rfl <|
          q_idx_rm .n (.t rfl) (.t rfl) sl_25 (fun _ => by first | omega | assumption | (simp only [List.length_append, List.length_cons, List.length_nil, List.length_replicate, put_len] at * <;> omega)) rfl <|
          q_ld1_ro .n (.t rfl) rfl ic_2 rfl <|
          q_int .n (.t rfl) (.t rfl) rfl rfl <|
          Lex.nil) (by kernel_rfl) ?_
      refine run_cond (.t rfl) rfl (fun h5 => ?_) (fun h5 => ?_)
      · try simp only [Bool.and_eq_true, Bool.or_eq_true, Bool.not_eq_true', Bool.and_eq_false_iff, Bool.or_eq_false_iff, Bool.not_eq_false', decide_eq_true_eq, decide_eq_false_iff_not, beq_iff_eq, bne_iff_ne, beq_eq_false_iff_ne, bne_eq_false_iff_eq, Bool.true_and, ne_eq, Decidable.not_not, Int.not_lt, Int.not_le, Nat.not_lt, Nat.not_le, strB_nil, strB_nil', strB_nnil, strB_nnil'] at h5
        refine run_seq ?_
        refine run_region (q_assign .n (.c rfl) rfl <|
            Lex.nil) ?_
        exact run_ret [] (.cons (.t rfl rfl) .nil) rfl trivial rfl
      · try simp only [Bool.and_eq_true, Bool.or_eq_true, Bool.not_eq_true', Bool.and_eq_false_iff, Bool.or_eq_false_iff, Bool.not_eq_false', decide_eq_true_eq, decide_eq_false_iff_not, beq_iff_eq, bne_iff_ne, beq_eq_false_iff_ne, bne_eq_false_iff_eq, Bool.true_and, ne_eq, Decidable.not_not, Int.not_lt, Int.not_le, Nat.not_lt, Nat.not_le, strB_nil, strB_nil', strB_nnil, strB_nnil'] at h5
        refine run_skip ?_
        refine run_endB ?_
        refine run_region (q_move .n (.t rfl) rfl <|
            q_add .n (.t rfl) (.c rfl) (fun _ => by first | omega | assumption | (simp only [List.length_append, List.length_cons, List.length_nil, List.length_replicate, put_len] at * <;> omega)) rfl <|
            q_assign .n (.t rfl) rfl <|
            Lex.nil) ?_
        exact run_again (x1 + 1) (by first | omega | assumption | (simp only [List.length_append, List.length_cons, List.length_nil, List.length_replicate, put_len] at * <;> omega)) (by first | omega | assumption | (simp only [List.length_append, List.length_cons, List.length_nil, List.length_replicate, put_len] at * <;> omega)) (sub_of [] ⟨rfl, rfl, trivial⟩ trivial rfl)
    · try simp only [Bool.and_eq_true, Bool.or_eq_true, Bool.not_eq_true', Bool.and_eq_false_iff, Bool.or_eq_false_iff, Bool.not_eq_false', decide_eq_true_eq, decide_eq_false_iff_not, beq_iff_eq, bne_iff_ne, beq_eq_false_iff_ne, bne_eq_false_iff_eq, Bool.true_and, ne_eq, Decidable.not_not, Int.not_lt, Int.not_le, Nat.not_lt, Nat.not_le, strB_nil, strB_nil', strB_nnil, strB_nnil'] at h4
      refine run_exit rfl ?_
      exact run_cont hk2 x1 (by first | omega | assumption | (simp only [List.length_append, List.length_cons, List.length_nil, List.length_replicate, put_len] at * <;> omega)) (sub_of [] trivial trivial rfl)

/-! ### impl_Mine_hasJunctions -/
theorem c_impl_Mine_hasJunctions (m_ : gMine) (list : List Int) : Con Try.prog 82 [.st [.int .i64 m_.Junctions, .sl 7 (m_.Airways.map gAirway.v)], .sl 1 (list.map (V.int .i64))] [] (.bool (m_impl_Mine_hasJunctions m_ list)) ([]) := by
  refine con_intro (out := fun r : Bool => ((.bool r : V), ([] : List (Nat × Option O)))) (r := (m_impl_Mine_hasJunctions m_ list)) Try.func82 rfl Try.ntmps82 rfl ?_
  refine run_factS (t := 0) 1 rfl rfl fun hl => ?_
  have l1 := hl; clear hl; simp only [List.length_map] at l1
  refine run_fact (t := 1) rfl fun hl => ?_
  have l2 := hl; clear hl; simp only [List.length_map] at l2
  refine run_seq ?_
  refine run_region (q_box (l := 200) .n rfl (.t rfl) rfl rfl rfl rfl <|
      q_assign .n (.c rfl) rfl <|
      Lex.nil) ?_
  refine run_seq ?_
  refine run_region (q_move .n (.t rfl) rfl <|
      q_call0 (full := false) .n .f en_103 (.cons (.t rfl) .nil) (.cons (.b (.a (.same rfl))) .nil) (fun hg => c_impl_increasing list) rfl (fun h => Bool.noConfusion h) rfl <|
      q_move .n (.t rfl) rfl <|
      q_move (.t rfl rfl) (.t rfl) rfl <|
      q_fld_ow (.t rfl rfl) (.t rfl) fo_34_0 rfl <|
      q_ld1_ow (.t rfl rfl) (.u rfl id) rfl (.inr rfl) (fun _ => rfl) rfl ic_2 rfl <|
      q_int (.t rfl rfl) (.u rfl id) (.c rfl) rfl rfl <|
      q_call0 (full := false) (.t rfl rfl) .f en_81 (.cons (.u rfl id) (.cons (.c rfl) (.cons (.u rfl id) .nil))) (.cons (.b (.a (.same rfl))) (.cons (.b (.a (.same rfl))) (.cons (.b (.a (.same rfl))) .nil))) (fun hg => c_impl_allWithin list 0 (IntKind.wrap .i64 (m_.Junctions - 1))) rfl (fun h => Bool.noConfusion h) rfl <|
      q_and .n (.t rfl) (.u rfl id) rfl <|
      q_assign .n (.t rfl) rfl <|
      Lex.nil) ?_
  exact run_ret [] (.cons (.t rfl rfl) .nil) rfl trivial rfl

/-! ### impl_escapeOf -/
theorem c_impl_escapeOf (m_ : gMine) (arrivals : List Int) (blocked : Int) (list : List gCrew) (start : Int) (exits : List Int) : Con Try.prog 43 [.st [.int .i64 m_.Junctions, .sl 7 (m_.Airways.map gAirway.v)], .sl 1 (arrivals.map (V.int .i64)), .int .i64 blocked, .os 3 list.length, .int .i64 start, .sl 1 (exits.map (V.int .i64))] [(3, some (.row 37 3 (list.map gCrew.v)))] (.tup [.st [.int .i64 (m_impl_escapeOf m_ arrivals blocked list start exits).1.mine.Junctions, .sl 7 ((m_impl_escapeOf m_ arrivals blocked list start exits).1.mine.Airways.map gAirway.v), .sl 1 ((m_impl_escapeOf m_ arrivals blocked list start exits).1.arrivals.map (V.int .i64)), .int .i64 (m_impl_escapeOf m_ arrivals blocked list start exits).1.blocked], .int .i64 (m_impl_escapeOf m_ arrivals blocked list start exits).2.1]) ([(3, some (.row 37 3 ((m_impl_escapeOf m_ arrivals blocked list start exits).2.2.map gCrew.v)))]) := by
  refine con_intro (out := fun r : gescape × Int × (List gCrew) => ((.tup [.st [.int .i64 r.1.mine.Junctions, .sl 7 (r.1.mine.Airways.map gAirway.v), .sl 1 (r.1.arrivals.map (V.int .i64)), .int .i64 r.1.blocked], .int .i64 r.2.1] : V), ([(3, some (.row 37 3 (r.2.2.map gCrew.v)))] : List (Nat × Option O)))) (r := (m_impl_escapeOf m_ arrivals blocked list start exits)) Try.func43 rfl Try.ntmps43 rfl ?_
  refine run_factS (t := 0) 1 rfl rfl fun hl => ?_
  have l1 := hl; clear hl; simp only [List.length_map] at l1
  refine run_fact (t := 1) rfl fun hl => ?_
  have l2 := hl; clear hl; simp only [List.length_map] at l2
  refine run_factH (l := 3) rfl fun hl => ?_
  have l3 := hl; clear hl; simp only [List.length_map] at l3
  refine run_fact (t := 5) rfl fun hl => ?_
  have l4 := hl; clear hl; simp only [List.length_map] at l4
  refine run_seq ?_
  refine run_region (q_box (l := 200) .n rfl (.t rfl) rfl rfl rfl rfl <|
      q_alloc (l := 201) .n rfl zv_78 rfl rfl <|
      q_assign .n (.c rfl) rfl <|
      Lex.nil) ?_
  refine run_seq ?_
  refine run_block ?_
  refine run_seq ?_
  refine run_region (q_ldN_ow .n (.t rfl) rfl (.inr rfl) ag_34 (fun _ => rfl) rfl rfl <|
      q_move .n (.t rfl) rfl <|
      q_call0 (full := true) .n .f en_79 (.cons (.t rfl) (.cons (.t rfl) .nil)) (.cons (.sts rfl) (.cons (.b (.a (.own rfl rfl rfl (take_all (by simp only [len_map, put_len])) (by simp only [len_map, put_len])))) .nil)) (fun hg => c_impl_ValidCrews m_ list) rfl (fun _ => rfl) rfl <|
      q_not .n (.t rfl) rfl <|
      q_assign .n (.t rfl) rfl <|
      Lex.nil) ?_
  refine run_cond (.t rfl) rfl (fun h5 => ?_) (fun h5 => ?_)
  · try simp only [Bool.and_eq_true, Bool.or_eq_true, Bool.not_eq_true', Bool.and_eq_false_iff, Bool.or_eq_false_iff, Bool.not_eq_false', decide_eq_true_eq, decide_eq_false_iff_not, beq_iff_eq, bne_iff_ne, beq_eq_false_iff_ne, bne_eq_false_iff_eq, Bool.true_and, ne_eq, Decidable.not_not, Int.not_lt, Int.not_le, Nat.not_lt, Nat.not_le, strB_nil, strB_nil', strB_nnil, strB_nnil'] at h5
    refine run_seq ?_
    refine run_region (q_build (us := [.int .i64 0, .nls, .nls, .int .i64 0]) .n .nil zv_78 pl_78 rfl rfl rfl <|
        q_st_boxm [.int .i64 0, .nls, .nls, .int .i64 0] .n rfl (.t rfl) (.t rfl) rfl ts_78 rfl rfl <|
        q_assign .n (.c rfl) rfl <|
        Lex.nil) ?_
    refine run_sub (sub_nlsB (b := 201) [.int .i64 0, .sl 7 (([] : List gAirway).map gAirway.v), .sl 1 (([] : List Int).map (V.int .i64)), .int .i64 0] rfl ⟨.inl rfl, .inr ⟨rfl, _, rfl⟩, .inr ⟨rfl, _, rfl⟩, .inl rfl, trivial⟩) ?_
    exact run_ret [] (.cons (.cN rfl rfl ag_78 rfl rfl) (.cons (.t rfl rfl) .nil)) (by first | rfl | (simp only [put_len]; rfl)) ⟨rfl, trivial⟩ rfl
  · try simp only [Bool.and_eq_true, Bool.or_eq_true, Bool.not_eq_true', Bool.and_eq_false_iff, Bool.or_eq_false_iff, Bool.not_eq_false', decide_eq_true_eq, decide_eq_false_iff_not, beq_iff_eq, bne_iff_ne, beq_eq_false_iff_ne, bne_eq_false_iff_eq, Bool.true_and, ne_eq, Decidable.not_not, Int.not_lt, Int.not_le, Nat.not_lt, Nat.not_le, strB_nil, strB_nil', strB_nnil, strB_nnil'] at h5
    refine run_seq ?_
    refine run_region (q_move .n (.t rfl) rfl <|
        q_fld_ow .n (.t rfl) fo_34_1 rfl <|
        q_ld1_ow .n (.t rfl) rfl (.inr rfl) (fun _ => rfl) rfl ic_32 rfl <|
        q_len .n (.t rfl) rfl len_map ss_32 rfl <|
        q_sub .n (.t rfl) (.c rfl) (fun _ => by first | omega | assumption | (simp only [List.length_append, List.length_cons, List.length_nil, List.length_replicate, put_len] at * <;> omega)) rfl <|
        q_call0 (full := false) .n .f en_80 (.cons (.t rfl) (.cons (.c rfl) (.cons (.t rfl) .nil))) (.cons (.b (.a (.same rfl))) (.cons (.b (.a (.same rfl))) (.cons (.b (.a (.same rfl))) .nil))) (fun hg => c_impl_within blocked (-1) ((m_.Airways.length : Int) - 1)) rfl (fun h => Bool.noConfusion h) rfl <|
        q_not .n (.t rfl) rfl <|
        q_move .n (.t rfl) rfl <|
        q_move (.f rfl rfl) (.t rfl) rfl <|
        q_call0 (full := false) (.f rfl rfl) .f en_80 (.cons (.u rfl id) (.cons (.c rfl) (.cons (.c rfl) .nil))) (.cons (.b (.a (.same rfl))) (.cons (.b (.a (.same rfl))) (.cons (.b (.a (.same rfl))) .nil))) (fun hg => c_impl_within start 0 36000) rfl (fun h => Bool.noConfusion h) rfl <|
        q_not (.f rfl rfl) (.u rfl id) rfl <|
        q_or .n (.t rfl) (.u rfl id) rfl <|
        q_assign .n (.t rfl) rfl <|
        Lex.nil) ?_
    refine run_cond (.t rfl) rfl (fun h6 => ?_) (fun h6 => ?_)
    · try simp only [Bool.and_eq_true, Bool.or_eq_true, Bool.not_eq_true', Bool.and_eq_false_iff, Bool.or_eq_false_iff, Bool.not_eq_false', decide_eq_true_eq, decide_eq_false_iff_not, beq_iff_eq, bne_iff_ne, beq_eq_false_iff_ne, bne_eq_false_iff_eq, Bool.true_and, ne_eq, Decidable.not_not, Int.not_lt, Int.not_le, Nat.not_lt, Nat.not_le, strB_nil, strB_nil', strB_nnil, strB_nnil'] at h6
      try have hf0h6 := within_imp h6
      try have hf1h6 := within_imp h6.1
      try have hf2h6 := within_imp h6.2
      try have hf3h6 := within_imp h6.1.1
      try have hf4h6 := within_imp h6.1.2
      try have hf5h6 := within_imp h6.2.1
      try have hf6h6 := within_imp h6.2.2
      refine run_seq ?_
      refine run_region (q_build (us := [.int .i64 0, .nls, .nls, .int .i64 0]) .n .nil zv_78 pl_78 rfl rfl rfl <|
          q_st_boxm [.int .i64 0, .nls, .nls, .int .i64 0] .n rfl (.t rfl) (.t rfl) rfl ts_78 rfl rfl <|
          q_assign .n (.c rfl) rfl <|
          Lex.nil) ?_
      refine run_sub (sub_nlsB (b := 201) [.int .i64 0, .sl 7 (([] : List gAirway).map gAirway.v), .sl 1 (([] : List Int).map (V.int .i64)), .int .i64 0] rfl ⟨.inl rfl, .inr ⟨rfl, _, rfl⟩, .inr ⟨rfl, _, rfl⟩, .inl rfl, trivial⟩) ?_
      exact run_ret [] (.cons (.cN rfl rfl ag_78 rfl rfl) (.cons (.t rfl rfl) .nil)) (by first | rfl | (simp only [put_len]; rfl)) ⟨rfl, trivial⟩ rfl
    · try simp only [Bool.and_eq_true, Bool.or_eq_true, Bool.not_eq_true', Bool.and_eq_false_iff, Bool.or_eq_false_iff, Bool.not_eq_false', decide_eq_true_eq, decide_eq_false_iff_not, beq_iff_eq, bne_iff_ne, beq_eq_false_iff_ne, bne_eq_false_iff_eq, Bool.true_and, ne_eq, Decidable.not_not, Int.not_lt, Int.not_le, Nat.not_lt, Nat.not_le, strB_nil, strB_nil', strB_nnil, strB_nnil'] at h6
      try have hf0h6 := within_imp h6
      try have hf1h6 := within_imp h6.1
      try have hf2h6 := within_imp h6.2
      try have hf3h6 := within_imp h6.1.1
      try have hf4h6 := within_imp h6.1.2
      try have hf5h6 := within_imp h6.2.1
      try have hf6h6 := within_imp h6.2.2
      refine run_seq ?_
      refine run_region (q_move .n (.t rfl) rfl <|
          q_len .n (.t rfl) rfl len_map ss_25 rfl <|
          q_fld_ow .n (.t rfl) fo_34_0 rfl <|
          q_ld1_ow .n (.t rfl) rfl (.inr rfl) (fun _ => rfl) rfl ic_2 rfl <|
          q_int .n (.t rfl) (.t rfl) rfl rfl <|
          q_move .n (.t rfl) rfl <|
          q_move (.f rfl rfl) (.t rfl) rfl <|
          q_call0 (full := false) (.f rfl rfl) .f en_81 (.cons (.u rfl id) (.cons (.c rfl) (.cons (.c rfl) .nil))) (.cons (.b (.a (.same rfl))) (.cons (.b (.a (.same rfl))) (.cons (.b (.a (.same rfl))) .nil))) (fun hg => c_impl_allWithin arrivals (-1) 1000000000000) rfl (fun h => Bool.noConfusion h) rfl <|
          q_not (.f rfl rfl) (.u rfl id) rfl <|
          q_or .n (.t rfl) (.u rfl id) rfl <|
          q_move .n (.t rfl) rfl <|
          q_ldN_ow (.f rfl rfl) (.t rfl) rfl (.inr rfl) ag_34 (fun _ => rfl) rfl rfl <|
          q_move (.f rfl rfl) (.t rfl) rfl <|
          q_call0 (full := false) (.f rfl rfl) .f en_82 (.cons (.u rfl id) (.cons (.u rfl id) .nil)) (.cons (.sts rfl) (.cons (.b (.a (.same rfl))) .nil)) (fun hg => c_impl_Mine_hasJunctions m_ exits) rfl (fun h => Bool.noConfusion h) rfl <|
          q_not (.f rfl rfl) (.u rfl id) rfl <|
          q_or .n (.t rfl) (.u rfl id) rfl <|
          q_assign .n (.t rfl) rfl <|
          Lex.nil) ?_
      refine run_cond (.t rfl) rfl (fun h7 => ?_) (fun h7 => ?_)
      · try simp only [Bool.and_eq_true, Bool.or_eq_true, Bool.not_eq_true', Bool.and_eq_false_iff, Bool.or_eq_false_iff, Bool.not_eq_false', decide_eq_true_eq, decide_eq_false_iff_not, beq_iff_eq, bne_iff_ne, beq_eq_false_iff_ne, bne_eq_false_iff_eq, Bool.true_and, ne_eq, Decidable.not_not, Int.not_lt, Int.not_le, Nat.not_lt, Nat.not_le, strB_nil, strB_nil', strB_nnil, strB_nnil'] at h7
        refine run_seq ?_
        refine run_region (q_build (us := [.int .i64 0, .nls, .nls, .int .i64 0]) .n .nil zv_78 pl_78 rfl rfl rfl <|
            q_st_boxm [.int .i64 0, .nls, .nls, .int .i64 0] .n rfl (.t rfl) (.t rfl) rfl ts_78 rfl rfl <|
            q_assign .n (.c rfl) rfl <|
            Lex.nil) ?_
        refine run_sub (sub_nlsB (b := 201) [.int .i64 0, .sl 7 (([] : List gAirway).map gAirway.v), .sl 1 (([] : List Int).map (V.int .i64)), .int .i64 0] rfl ⟨.inl rfl, .inr ⟨rfl, _, rfl⟩, .inr ⟨rfl, _, rfl⟩, .inl rfl, trivial⟩) ?_
        exact run_ret [] (.cons (.cN rfl rfl ag_78 rfl rfl) (.cons (.t rfl rfl) .nil)) (by first | rfl | (simp only [put_len]; rfl)) ⟨rfl, trivial⟩ rfl
      · try simp only [Bool.and_eq_true, Bool.or_eq_true, Bool.not_eq_true', Bool.and_eq_false_iff, Bool.or_eq_false_iff, Bool.not_eq_false', decide_eq_true_eq, decide_eq_false_iff_not, beq_iff_eq, bne_iff_ne, beq_eq_false_iff_ne, bne_eq_false_iff_eq, Bool.true_and, ne_eq, Decidable.not_not, Int.not_lt, Int.not_le, Nat.not_lt, Nat.not_le, strB_nil, strB_nil', strB_nnil, strB_nnil'] at h7
        refine run_skip ?_
        refine run_endB ?_
        refine run_seq ?_
        refine run_region (q_ldN_ow .n (.t rfl) rfl (.inr rfl) ag_34 (fun _ => rfl) rfl rfl <|
            q_move .n (.t rfl) rfl <|
            q_move .n (.t rfl) rfl <|
            q_build (us := [.int .i64 m_.Junctions, .sl 7 (m_.Airways.map gAirway.v), .sl 1 (arrivals.map (V.int .i64)), .int .i64 blocked]) .n (.cons (.t rfl) (.cons (.t rfl) (.cons (.t rfl) .nil))) zv_78 pl_78 rfl rfl rfl <|
            q_st_boxm [.int .i64 m_.Junctions, .sl 7 (m_.Airways.map gAirway.v), .sl 1 (arrivals.map (V.int .i64)), .int .i64 blocked] .n rfl (.t rfl) (.t rfl) rfl ts_78 rfl rfl <|
            q_assign .n (.c rfl) rfl <|
            Lex.nil) ?_
        exact run_ret [] (.cons (.cN rfl rfl ag_78 rfl rfl) (.cons (.t rfl rfl) .nil)) (by first | rfl | (simp only [put_len]; rfl)) ⟨rfl, trivial⟩ rfl

/-! ### math_bits_Mul32 -/
theorem c_math_bits_Mul32 (x_ : Int) (y : Int) : Con Try.prog 121 [.int .u32 x_, .int .u32 y] [] (.tup [.int .u32 (m_math_bits_Mul32 x_ y).1, .int .u32 (m_math_bits_Mul32 x_ y).2]) ([]) := by
  refine con_intro (out := fun r : Int × Int => ((.tup [.int .u32 r.1, .int .u32 r.2] : V), ([] : List (Nat × Option O)))) (r := (m_math_bits_Mul32 x_ y)) Try.func121 rfl Try.ntmps121 rfl ?_
  refine run_seq ?_
  refine run_region (q_assign .n (.c rfl) rfl <|
      q_assign .n (.c rfl) rfl <|
      Lex.nil) ?_
  refine run_seq ?_
  refine run_region (q_move .n (.t rfl) rfl <|
      q_conv .n (.t rfl) cv_157_160 rfl <|
      q_move .n (.t rfl) rfl <|
      q_conv .n (.t rfl) cv_157_160 rfl <|
      q_int .n (.t rfl) (.t rfl) rfl rfl <|
      q_assign .n (.t rfl) rfl <|
      Lex.nil) ?_
  refine run_seq ?_
  refine run_region (q_move .n (.t rfl) rfl <|
      q_shr .n (.t rfl) (.c rfl) (fun _ => by first | omega | assumption | (simp only [List.length_append, List.length_cons, List.length_nil, List.length_replicate, put_len] at * <;> omega)) rfl <|
      q_conv .n (.t rfl) cv_160_157 rfl <|
      q_move .n (.t rfl) rfl <|
      q_conv .n (.t rfl) cv_160_157 rfl <|
      q_assign .n (.t rfl) rfl <|
      q_assign .n (.t rfl) rfl <|
      Lex.nil) ?_
  exact run_ret [] (.cons (.t rfl rfl) (.cons (.t rfl rfl) .nil)) rfl trivial rfl

/-! ### math_bits_Mul64 -/
theorem c_math_bits_Mul64 (x_ : Int) (y : Int) : Con Try.prog 122 [.int .u64 x_, .int .u64 y] [] (.tup [.int .u64 (m_math_bits_Mul64 x_ y).1, .int .u64 (m_math_bits_Mul64 x_ y).2]) ([]) := by
  refine con_intro (out := fun r : Int × Int => ((.tup [.int .u64 r.1, .int .u64 r.2] : V), ([] : List (Nat × Option O)))) (r := (m_math_bits_Mul64 x_ y)) Try.func122 rfl Try.ntmps122 rfl ?_
  refine run_seq ?_
  refine run_region (q_assign .n (.c rfl) rfl <|
      q_assign .n (.c rfl) rfl <|
      Lex.nil) ?_
  refine run_seq ?_
  refine run_region (q_move .n (.t rfl) rfl <|
      q_int .n (.t rfl) (.c rfl) rfl rfl <|
      q_assign .n (.t rfl) rfl <|
      Lex.nil) ?_
  refine run_seq ?_
  refine run_region (q_move .n (.t rfl) rfl <|
      q_shr .n (.t rfl) (.c rfl) (fun _ => by first | omega | assumption | (simp only [List.length_append, List.length_cons, List.length_nil, List.length_replicate, put_len] at * <;> omega)) rfl <|
      q_assign .n (.t rfl) rfl <|
      Lex.nil) ?_
  refine run_seq ?_
  refine run_region (q_move .n (.t rfl) rfl <|
      q_int .n (.t rfl) (.c rfl) rfl rfl <|
      q_assign .n (.t rfl) rfl <|
      Lex.nil) ?_
  refine run_seq ?_
  refine run_region (q_move .n (.t rfl) rfl <|
      q_shr .n (.t rfl) (.c rfl) (fun _ => by first | omega | assumption | (simp only [List.length_append, List.length_cons, List.length_nil, List.length_replicate, put_len] at * <;> omega)) rfl <|
      q_assign .n (.t rfl) rfl <|
      Lex.nil) ?_
  refine run_seq ?_
  refine run_region (q_move .n (.t rfl) rfl <|
      q_move .n (.t rfl) rfl <|
      q_int .n (.t rfl) (.t rfl) rfl rfl <|
      q_assign .n (.t rfl) rfl <|
      Lex.nil) ?_
  refine run_seq ?_
  refine run_region (q_move .n (.t rfl) rfl <|
      q_move .n (.t rfl) rfl <|
      q_int .n (.t rfl) (.t rfl) rfl rfl <|
      q_move .n (.t rfl) rfl <|
      q_shr .n (.t rfl) (.c rfl) (fun _ => by first | omega | assumption | (simp only [List.length_append, List.length_cons, List.length_nil, List.length_replicate, put_len] at * <;> omega)) rfl <|
      q_int .n (.t rfl) (.t rfl) rfl rfl <|
      q_assign .n (.t rfl) rfl <|
      Lex.nil) ?_
  refine run_seq ?_
  refine run_region (q_move .n (.t rfl) rfl <|
      q_int .n (.t rfl) (.c rfl) rfl rfl <|
      q_assign .n (.t rfl) rfl <|
      Lex.nil) ?_
  refine run_seq ?_
  refine run_region (q_move .n (.t rfl) rfl <|
      q_shr .n (.t rfl) (.c rfl) (fun _ => by first | omega | assumption | (simp only [List.length_append, List.length_cons, List.length_nil, List.length_replicate, put_len] at * <;> omega)) rfl <|
      q_assign .n (.t rfl) rfl <|
      Lex.nil) ?_
  refine run_seq ?_
  refine run_region (q_move .n (.t rfl) rfl <|
      q_move .n (.t rfl) rfl <|
      q_move .n (.t rfl) rfl <|
      q_int .n (.t rfl) (.t rfl) rfl rfl <|
      q_int .n (.t rfl) (.t rfl) rfl rfl <|
      q_assign .n (.t rfl) rfl <|
      Lex.nil) ?_
  refine run_seq ?_
  refine run_region (q_move .n (.t rfl) rfl <|
      q_move .n (.t rfl) rfl <|
      q_int .n (.t rfl) (.t rfl) rfl rfl <|
      q_move .n (.t rfl) rfl <|
      q_int .n (.t rfl) (.t rfl) rfl rfl <|
      q_move .n (.t rfl) rfl <|
      q_shr .n (.t rfl) (.c rfl) (fun _ => by first | omega | assumption | (simp only [List.length_append, List.length_cons, List.length_nil, List.length_replicate, put_len] at * <;> omega)) rfl <|
      q_int .n (.t rfl) (.t rfl) rfl rfl <|
      q_assign .n (.t rfl) rfl <|
      Lex.nil) ?_
  refine run_seq ?_
  refine run_region (q_move .n (.t rfl) rfl <|
      q_move .n (.t rfl) rfl <|
      q_int .n (.t rfl) (.t rfl) rfl rfl <|
      q_assign .n (.t rfl) rfl <|
      Lex.nil) ?_
  exact run_ret [] (.cons (.t rfl rfl) (.cons (.t rfl rfl) .nil)) rfl trivial rfl

/-! ### math_bits_Mul -/
theorem c_math_bits_Mul (x_ : Int) (y : Int) : Con Try.prog 104 [.int .u64 x_, .int .u64 y] [] (.tup [.int .u64 (m_math_bits_Mul x_ y).1, .int .u64 (m_math_bits_Mul x_ y).2]) ([]) := by
  refine con_intro (out := fun r : Int × Int => ((.tup [.int .u64 r.1, .int .u64 r.2] : V), ([] : List (Nat × Option O)))) (r := (m_math_bits_Mul x_ y)) Try.func104 rfl Try.ntmps104 rfl ?_
  refine run_seq ?_
  refine run_region (q_assign .n (.c rfl) rfl <|
      q_assign .n (.c rfl) rfl <|
      Lex.nil) ?_
  refine run_seq ?_
  refine run_cond (.c rfl) rfl (fun h1 => ?_) (fun h1 => ?_)
  · try simp only [Bool.and_eq_true, Bool.or_eq_true, Bool.not_eq_true', Bool.and_eq_false_iff, Bool.or_eq_false_iff, Bool.not_eq_false', decide_eq_true_eq, decide_eq_false_iff_not, beq_iff_eq, bne_iff_ne, beq_eq_false_iff_ne, bne_eq_false_iff_eq, Bool.true_and, ne_eq, Decidable.not_not, Int.not_lt, Int.not_le, Nat.not_lt, Nat.not_le, strB_nil, strB_nil', strB_nnil, strB_nnil'] at h1
    refine run_seq ?_
    refine run_region (q_move .n (.t rfl) rfl <|
        q_conv .n (.t rfl) cv_146_157 rfl <|
        q_move .n (.t rfl) rfl <|
        q_conv .n (.t rfl) cv_146_157 rfl <|
        q_call0 (full := false) .n .f en_121 (.cons (.t rfl) (.cons (.t rfl) .nil)) (.cons (.b (.a (.same rfl))) (.cons (.b (.a (.same rfl))) .nil)) (fun hg => c_math_bits_Mul32 (IntKind.wrap .u32 x_) (IntKind.wrap .u32 y)) rfl (fun h => Bool.noConfusion h) rfl <|
        q_move .n (.t rfl) rfl <|
        q_ext .n (.t rfl) rfl rfl rfl <|
        q_ext .n (.t rfl) rfl rfl rfl <|
        q_assign .n (.t rfl) rfl <|
        q_assign .n (.t rfl) rfl <|
        Lex.nil) ?_
    refine run_seq ?_
    refine run_region (q_move .n (.t rfl) rfl <|
        q_conv .n (.t rfl) cv_157_146 rfl <|
        q_move .n (.t rfl) rfl <|
        q_conv .n (.t rfl) cv_157_146 rfl <|
        q_assign .n (.t rfl) rfl <|
        q_assign .n (.t rfl) rfl <|
        Lex.nil) ?_
    exact run_ret [] (.cons (.t rfl rfl) (.cons (.t rfl rfl) .nil)) rfl trivial rfl
  · try simp only [Bool.and_eq_true, Bool.or_eq_true, Bool.not_eq_true', Bool.and_eq_false_iff, Bool.or_eq_false_iff, Bool.not_eq_false', decide_eq_true_eq, decide_eq_false_iff_not, beq_iff_eq, bne_iff_ne, beq_eq_false_iff_ne, bne_eq_false_iff_eq, Bool.true_and, ne_eq, Decidable.not_not, Int.not_lt, Int.not_le, Nat.not_lt, Nat.not_le, strB_nil, strB_nil', strB_nnil, strB_nnil'] at h1
    refine run_skip ?_
    refine run_seq ?_
    refine run_region (q_move .n (.t rfl) rfl <|
        q_move .n (.t rfl) rfl <|
        q_call0 (full := false) .n .f en_122 (.cons (.t rfl) (.cons (.t rfl) .nil)) (.cons (.b (.a (.same rfl))) (.cons (.b (.a (.same rfl))) .nil)) (fun hg => c_math_bits_Mul64 x_ y) rfl (fun h => Bool.noConfusion h) rfl <|
        q_move .n (.t rfl) rfl <|
        q_ext .n (.t rfl) rfl rfl rfl <|
        q_ext .n (.t rfl) rfl rfl rfl <|
        q_assign .n (.t rfl) rfl <|
        q_assign .n (.t rfl) rfl <|
        Lex.nil) ?_
    refine run_seq ?_
    refine run_region (q_move .n (.t rfl) rfl <|
        q_move .n (.t rfl) rfl <|
        q_assign .n (.t rfl) rfl <|
        q_assign .n (.t rfl) rfl <|
        Lex.nil) ?_
    exact run_ret [] (.cons (.t rfl rfl) (.cons (.t rfl rfl) .nil)) rfl trivial rfl

/-! ### slices_Repeat_int64 -/
theorem c_slices_Repeat_int64 (x_ : List Int) (count : Int) (hp1 : x_.length = 1) (hp2 : 1 ≤ count ∧ count ≤ 16) : Con Try.prog 83 [.sl 1 (x_.map (V.int .i64)), .int .i64 count] [] (.os 100 (m_slices_Repeat_int64 x_ count).length) ([(100, some (.row 2 1 ((m_slices_Repeat_int64 x_ count).map (V.int .i64))))]) := by
  refine con_intro (out := fun r : (List Int) => ((.os 100 r.length : V), ([(100, some (.row 2 1 (r.map (V.int .i64))))] : List (Nat × Option O)))) (r := (m_slices_Repeat_int64 x_ count)) Try.func83 rfl Try.ntmps83 rfl ?_
  have hM := mul_rep (n := (x_.length : Int)) (c := count) (by omega) hp2
  have hW := wr64 (n := count) (by omega)
  refine run_fact (t := 0) rfl fun hl => ?_
  have l1 := hl; clear hl; simp only [List.length_map] at l1
  refine run_seq ?_
  refine run_region (q_assign .n (.c rfl) rfl <|
      Lex.nil) ?_
  refine run_seq ?_
  refine run_seq ?_
  refine run_region (q_move .n (.t rfl) rfl <|
      q_int .n (.t rfl) (.c rfl) rfl rfl <|
      Lex.nil) ?_
  refine run_if (.t rfl) (fun h2 => ?_) (fun h2 => ?_)
  · try simp only [Bool.and_eq_true, Bool.or_eq_true, Bool.not_eq_true', Bool.and_eq_false_iff, Bool.or_eq_false_iff, Bool.not_eq_false', decide_eq_true_eq, decide_eq_false_iff_not, beq_iff_eq, bne_iff_ne, beq_eq_false_iff_ne, bne_eq_false_iff_eq, Bool.true_and, ne_eq, Decidable.not_not, Int.not_lt, Int.not_le, Nat.not_lt, Nat.not_le, strB_nil, strB_nil', strB_nnil, strB_nnil'] at h2
    exfalso; first | omega | assumption | (simp only [List.length_append, List.length_cons, List.length_nil, List.length_replicate, put_len] at * <;> omega) | ((have hq := rep_step (by assumption) (by assumption) hp2.2 (by assumption); dsimp only at hq ⊢; omega)) | ((rw [cpy_len (by simp only [List.length_take] at *; omega)]; done)) | ((dsimp only; rw [cpy_len (by simp only [List.length_take, List.length_replicate, hM, hW] at *; omega)]; simp only [List.length_replicate, hM, hW]; omega)) | ((have hp := pre_len (xs := x1.1) (b := x1.2) (by omega); rw [cpy_len (by rw [List.length_take]; omega)]; done)) | ((simp only [hM, hW, List.length_replicate] at *; omega)) | ((rw [cpy_len (by simp only [List.length_take, List.length_replicate, hM, hW] at *; omega)]))
  · try simp only [Bool.and_eq_true, Bool.or_eq_true, Bool.not_eq_true', Bool.and_eq_false_iff, Bool.or_eq_false_iff, Bool.not_eq_false', decide_eq_true_eq, decide_eq_false_iff_not, beq_iff_eq, bne_iff_ne, beq_eq_false_iff_ne, bne_eq_false_iff_eq, Bool.true_and, ne_eq, Decidable.not_not, Int.not_lt, Int.not_le, Nat.not_lt, Nat.not_le, strB_nil, strB_nil', strB_nnil, strB_nnil'] at h2
    refine run_skip ?_
    refine run_seq ?_
    refine run_region (q_move .n (.t rfl) rfl <|
        q_len .n (.t rfl) rfl len_map ss_25 rfl <|
        q_conv .n (.t rfl) cv_3_146 rfl <|
        q_move .n (.t rfl) rfl <|
        q_conv .n (.t rfl) cv_3_146 rfl <|
        q_call0 (full := false) .n .f en_104 (.cons (.t rfl) (.cons (.t rfl) .nil)) (.cons (.b (.a (.same rfl))) (.cons (.b (.a (.same rfl))) .nil)) (fun hg => c_math_bits_Mul (IntKind.wrap .u64 (x_.length : Int)) (IntKind.wrap .u64 count)) rfl (fun h => Bool.noConfusion h) rfl <|
        q_move .n (.t rfl) rfl <|
        q_ext .n (.t rfl) rfl rfl rfl <|
        q_ext .n (.t rfl) rfl rfl rfl <|
        q_assign .n (.t rfl) rfl <|
        q_assign .n (.t rfl) rfl <|
        Lex.nil) ?_
    refine run_seq ?_
    refine run_seq ?_
    refine run_region (q_move .n (.t rfl) rfl <|
        q_int .n (.t rfl) (.c rfl) rfl rfl <|
        q_move .n (.t rfl) rfl <|
        q_move (.f rfl rfl) (.t rfl) rfl <|
        q_int (.f rfl rfl) (.u rfl id) (.c rfl) rfl rfl <|
        q_or .n (.t rfl) (.u rfl id) rfl <|
        Lex.nil) ?_
    refine run_if (.t rfl) (fun h3 => ?_) (fun h3 => ?_)
    · try simp only [Bool.and_eq_true, Bool.or_eq_true, Bool.not_eq_true', Bool.and_eq_false_iff, Bool.or_eq_false_iff, Bool.not_eq_false', decide_eq_true_eq, decide_eq_false_iff_not, beq_iff_eq, bne_iff_ne, beq_eq_false_iff_ne, bne_eq_false_iff_eq, Bool.true_and, ne_eq, Decidable.not_not, Int.not_lt, Int.not_le, Nat.not_lt, Nat.not_le, strB_nil, strB_nil', strB_nnil, strB_nnil'] at h3
      exfalso; first | omega | assumption | (simp only [List.length_append, List.length_cons, List.length_nil, List.length_replicate, put_len] at * <;> omega) | ((have hq := rep_step (by assumption) (by assumption) hp2.2 (by assumption); dsimp only at hq ⊢; omega)) | ((rw [cpy_len (by simp only [List.length_take] at *; omega)]; done)) | ((dsimp only; rw [cpy_len (by simp only [List.length_take, List.length_replicate, hM, hW] at *; omega)]; simp only [List.length_replicate, hM, hW]; omega)) | ((have hp := pre_len (xs := x1.1) (b := x1.2) (by omega); rw [cpy_len (by rw [List.length_take]; omega)]; done)) | ((simp only [hM, hW, List.length_replicate] at *; omega)) | ((rw [cpy_len (by simp only [List.length_take, List.length_replicate, hM, hW] at *; omega)]))
    · try simp only [Bool.and_eq_true, Bool.or_eq_true, Bool.not_eq_true', Bool.and_eq_false_iff, Bool.or_eq_false_iff, Bool.not_eq_false', decide_eq_true_eq, decide_eq_false_iff_not, beq_iff_eq, bne_iff_ne, beq_eq_false_iff_ne, bne_eq_false_iff_eq, Bool.true_and, ne_eq, Decidable.not_not, Int.not_lt, Int.not_le, Nat.not_lt, Nat.not_le, strB_nil, strB_nil', strB_nnil, strB_nnil'] at h3
      refine run_skip ?_
      refine run_seq ?_
      refine run_region (q_move .n (.t rfl) rfl <|
          q_conv .n (.t rfl) cv_146_3 rfl <|
          q_makem (f := V.int .i64) (l := 200) (0 : Int) .n rfl (.t rfl) (.t rfl) si_25 zv_2 (by first | omega | assumption | (simp only [List.length_append, List.length_cons, List.length_nil, List.length_replicate, put_len] at * <;> omega) | ((have hq := rep_step (by assumption) (by assumption) hp2.2 (by assumption); dsimp only at hq ⊢; omega)) | ((rw [cpy_len (by simp only [List.length_take] at *; omega)]; done)) | ((dsimp only; rw [cpy_len (by simp only [List.length_take, List.length_replicate, hM, hW] at *; omega)]; simp only [List.length_replicate, hM, hW]; omega)) | ((have hp := pre_len (xs := x1.1) (b := x1.2) (by omega); rw [cpy_len (by rw [List.length_take]; omega)]; done)) | ((simp only [hM, hW, List.length_replicate] at *; omega)) | ((rw [cpy_len (by simp only [List.length_take, List.length_replicate, hM, hW] at *; omega)]))) rfl rfl rfl <|
          q_assign .n (.t rfl) rfl <|
          Lex.nil) ?_
      refine run_seq ?_
      refine run_region (q_move .n (.t rfl) rfl <|
          q_move .n (.t rfl) rfl <|
          q_copym (ys := x_) (off := 0) (m := (List.replicate (IntKind.wrap .i64 (m_math_bits_Mul (IntKind.wrap .u64 (x_.length : Int)) (IntKind.wrap .u64 count)).2 : Int).toNat (0 : Int)).length) .n rfl (.os (.t rfl)) rfl (by first | omega | assumption | (simp only [List.length_append, List.length_cons, List.length_nil, List.length_replicate, put_len] at * <;> omega) | ((have hq := rep_step (by assumption) (by assumption) hp2.2 (by assumption); dsimp only at hq ⊢; omega)) | ((rw [cpy_len (by simp only [List.length_take] at *; omega)]; done)) | ((dsimp only; rw [cpy_len (by simp only [List.length_take, List.length_replicate, hM, hW] at *; omega)]; simp only [List.length_replicate, hM, hW]; omega)) | ((have hp := pre_len (xs := x1.1) (b := x1.2) (by omega); rw [cpy_len (by rw [List.length_take]; omega)]; done)) | ((simp only [hM, hW, List.length_replicate] at *; omega)) | ((rw [cpy_len (by simp only [List.length_take, List.length_replicate, hM, hW] at *; omega)]))) (.ro (.t rfl)) sl_25 rfl rfl <|
          q_assign .n (.t rfl) rfl <|
          Lex.nil) ?_
      refine run_seq ?_
      refine run_block ?_
      refine run_LOOP (m_slices_Repeat_int64_b1 x_ count) _ _ _ rfl (fun (x1 : (List Int) × Int) => (x1.1.length : Int) = count ∧ 1 ≤ x1.2 ∧ x1.2 ≤ count) (fun x1 => (x1.1.length : Int) = count ∧ 1 ≤ x1.2 ∧ x1.2 ≤ count) (fun x1 => (count - x1.2 : Int).toNat) (fun x1 => ⟨[(7, some (true, .os 200 x1.1.length)), (8, some (true, .int .i64 x1.2))], [(200, some (.row 2 1 (x1.1.map (V.int .i64))))]⟩) (fun x1 => ⟨[(7, some (true, .os 200 x1.1.length))], [(200, some (.row 2 1 (x1.1.map (V.int .i64))))]⟩) ⟨by first | omega | assumption | (simp only [List.length_append, List.length_cons, List.length_nil, List.length_replicate, put_len] at * <;> omega) | ((have hq := rep_step (by assumption) (by assumption) hp2.2 (by assumption); dsimp only at hq ⊢; omega)) | ((rw [cpy_len (by simp only [List.length_take] at *; omega)]; done)) | ((dsimp only; rw [cpy_len (by simp only [List.length_take, List.length_replicate, hM, hW] at *; omega)]; simp only [List.length_replicate, hM, hW]; omega)) | ((have hp := pre_len (xs := x1.1) (b := x1.2) (by omega); rw [cpy_len (by rw [List.length_take]; omega)]; done)) | ((simp only [hM, hW, List.length_replicate] at *; omega)) | ((rw [cpy_len (by simp only [List.length_take, List.length_replicate, hM, hW] at *; omega)])), by first | omega | assumption | (simp only [List.length_append, List.length_cons, List.length_nil, List.length_replicate, put_len] at * <;> omega) | ((have hq := rep_step (by assumption) (by assumption) hp2.2 (by assumption); dsimp only at hq ⊢; omega)) | ((rw [cpy_len (by simp only [List.length_take] at *; omega)]; done)) | ((dsimp only; rw [cpy_len (by simp only [List.length_take, List.length_replicate, hM, hW] at *; omega)]; simp only [List.length_replicate, hM, hW]; omega)) | ((have hp := pre_len (xs := x1.1) (b := x1.2) (by omega); rw [cpy_len (by rw [List.length_take]; omega)]; done)) | ((simp only [hM, hW, List.length_replicate] at *; omega)) | ((rw [cpy_len (by simp only [List.length_take, List.length_replicate, hM, hW] at *; omega)]))⟩ (by first | omega | assumption | (simp only [List.length_append, List.length_cons, List.length_nil, List.length_replicate, put_len] at * <;> omega) | ((have hq := rep_step (by assumption) (by assumption) hp2.2 (by assumption); dsimp only at hq ⊢; omega)) | ((rw [cpy_len (by simp only [List.length_take] at *; omega)]; done)) | ((dsimp only; rw [cpy_len (by simp only [List.length_take, List.length_replicate, hM, hW] at *; omega)]; simp only [List.length_replicate, hM, hW]; omega)) | ((have hp := pre_len (xs := x1.1) (b := x1.2) (by omega); rw [cpy_len (by rw [List.length_take]; omega)]; done)) | ((simp only [hM, hW, List.length_replicate] at *; omega)) | ((rw [cpy_len (by simp only [List.length_take, List.length_replicate, hM, hW] at *; omega)]))) (sub_of [] ⟨os_len rfl (by first | (simp only [put_len]; done) | (first | omega | assumption | (simp only [List.length_append, List.length_cons, List.length_nil, List.length_replicate, put_len] at * <;> omega) | ((have hq := rep_step (by assumption) (by assumption) hp2.2 (by assumption); dsimp only at hq ⊢; omega)) | ((rw [cpy_len (by simp only [List.length_take] at *; omega)]; done)) | ((dsimp only; rw [cpy_len (by simp only [List.length_take, List.length_replicate, hM, hW] at *; omega)]; simp only [List.length_replicate, hM, hW]; omega)) | ((have hp := pre_len (xs := x1.1) (b := x1.2) (by omega); rw [cpy_len (by rw [List.length_take]; omega)]; done)) | ((simp only [hM, hW, List.length_replicate] at *; omega)) | ((rw [cpy_len (by simp only [List.length_take, List.length_replicate, hM, hW] at *; omega)])))), rfl, trivial⟩ ⟨rfl, trivial⟩ rfl) ?_ ?_
      · intro x1 i7
        obtain ⟨e8, e9⟩ := i7
        try dsimp only at *
        refine run_seq ?_
        refine run_region (q_move .n (.t rfl) rfl <|
            q_assign .n (.t rfl) rfl <|
            Lex.nil) ?_
        exact run_ret [(100, 200)] (.cons (.t rfl rfl) .nil) (by first | rfl | (simp only [put_len]; rfl)) ⟨rfl, trivial⟩ rfl
      · intro rec1 k1 hk4 x1 i5
        obtain ⟨e10, e11⟩ := i5
        try dsimp only at *
        refine run_seq ?_
        refine run_seq ?_
        refine run_region (q_move .n (.t rfl) rfl <|
            q_move .n (.t rfl) rfl <|
            q_len .n (.t rfl) rfl rfl ss_25 rfl <|
            q_int .n (.t rfl) (.t rfl) rfl rfl <|
            Lex.nil) ?_
        refine run_cond (.t rfl) rfl (fun h6 => ?_) (fun h6 => ?_)
        · try simp only [Bool.and_eq_true, Bool.or_eq_true, Bool.not_eq_true', Bool.and_eq_false_iff, Bool.or_eq_false_iff, Bool.not_eq_false', decide_eq_true_eq, decide_eq_false_iff_not, beq_iff_eq, bne_iff_ne, beq_eq_false_iff_ne, bne_eq_false_iff_eq, Bool.true_and, ne_eq, Decidable.not_not, Int.not_lt, Int.not_le, Nat.not_lt, Nat.not_le, strB_nil, strB_nil', strB_nnil, strB_nnil'] at h6
          refine run_skip ?_
          refine run_block ?_
          refine run_draw fmo (q_move .n (.t rfl) rfl <|
              q_move .n (.t rfl) rfl <|
              q_move .n (.t rfl) rfl <|
              q_cut_oss (x1.1.length : Int) .n (.t rfl) (.s (.t rfl)) .n sl_25 rfl (fun _ => by first | omega | assumption | (simp only [List.length_append, List.length_cons, List.length_nil, List.length_replicate, put_len] at * <;> omega) | ((have hq := rep_step (by assumption) (by assumption) hp2.2 (by assumption); dsimp only at hq ⊢; omega)) | ((rw [cpy_len (by simp only [List.length_take] at *; omega)]; done)) | ((dsimp only; rw [cpy_len (by simp only [List.length_take, List.length_replicate, hM, hW] at *; omega)]; simp only [List.length_replicate, hM, hW]; omega)) | ((have hp := pre_len (xs := x1.1) (b := x1.2) (by omega); rw [cpy_len (by rw [List.length_take]; omega)]; done)) | ((simp only [hM, hW, List.length_replicate] at *; omega)) | ((rw [cpy_len (by simp only [List.length_take, List.length_replicate, hM, hW] at *; omega)]))) rfl <|
              q_move .n (.t rfl) rfl <|
              q_move .n (.t rfl) rfl <|
              q_cut_owm (xs := x1.1) (b := x1.2) .n (.t rfl) (.s (.t rfl)) sl_25 (fun _ => by first | omega | assumption | (simp only [List.length_append, List.length_cons, List.length_nil, List.length_replicate, put_len] at * <;> omega) | ((have hq := rep_step (by assumption) (by assumption) hp2.2 (by assumption); dsimp only at hq ⊢; omega)) | ((rw [cpy_len (by simp only [List.length_take] at *; omega)]; done)) | ((dsimp only; rw [cpy_len (by simp only [List.length_take, List.length_replicate, hM, hW] at *; omega)]; simp only [List.length_replicate, hM, hW]; omega)) | ((have hp := pre_len (xs := x1.1) (b := x1.2) (by omega); rw [cpy_len (by rw [List.length_take]; omega)]; done)) | ((simp only [hM, hW, List.length_replicate] at *; omega)) | ((rw [cpy_len (by simp only [List.length_take, List.length_replicate, hM, hW] at *; omega)]))) rfl <|
              q_copym (ys := pre' x1.1 x1.2) (off := x1.2.toNat) (m := ((x1.1.length : Int).toNat - x1.2.toNat)) .n rfl (.oss (.t rfl)) rfl (by first | omega | assumption | (simp only [List.length_append, List.length_cons, List.length_nil, List.length_replicate, put_len] at * <;> omega) | ((have hq := rep_step (by assumption) (by assumption) hp2.2 (by assumption); dsimp only at hq ⊢; omega)) | ((rw [cpy_len (by simp only [List.length_take] at *; omega)]; done)) | ((dsimp only; rw [cpy_len (by simp only [List.length_take, List.length_replicate, hM, hW] at *; omega)]; simp only [List.length_replicate, hM, hW]; omega)) | ((have hp := pre_len (xs := x1.1) (b := x1.2) (by omega); rw [cpy_len (by rw [List.length_take]; omega)]; done)) | ((simp only [hM, hW, List.length_replicate] at *; omega)) | ((rw [cpy_len (by simp only [List.length_take, List.length_replicate, hM, hW] at *; omega)]))) (.ow (.t rfl) rfl pre_map (by simp only [len_map, pre_len])) sl_25 rfl rfl <|
              q_int .n (.t rfl) (.t rfl) rfl rfl <|
              q_assign .n (.t rfl) rfl <|
              Lex.nil) (by kernel_rfl) ?_
          refine run_endB ?_
          exact run_again (cpy x1.1 (x1.2.toNat) ((pre' x1.1 x1.2).take (min (pre' x1.1 x1.2).length ((x1.1.length : Int).toNat - x1.2.toNat))), IntKind.wrap .i64 (x1.2 + (((min (pre' x1.1 x1.2).length ((x1.1.length : Int).toNat - x1.2.toNat)) : Nat) : Int))) ⟨by first | omega | assumption | (simp only [List.length_append, List.length_cons, List.length_nil, List.length_replicate, put_len] at * <;> omega) | ((have hq := rep_step (by assumption) (by assumption) hp2.2 (by assumption); dsimp only at hq ⊢; omega)) | ((rw [cpy_len (by simp only [List.length_take] at *; omega)]; done)) | ((dsimp only; rw [cpy_len (by simp only [List.length_take, List.length_replicate, hM, hW] at *; omega)]; simp only [List.length_replicate, hM, hW]; omega)) | ((have hp := pre_len (xs := x1.1) (b := x1.2) (by omega); rw [cpy_len (by rw [List.length_take]; omega)]; done)) | ((simp only [hM, hW, List.length_replicate] at *; omega)) | ((rw [cpy_len (by simp only [List.length_take, List.length_replicate, hM, hW] at *; omega)])), by first | omega | assumption | (simp only [List.length_append, List.length_cons, List.length_nil, List.length_replicate, put_len] at * <;> omega) | ((have hq := rep_step (by assumption) (by assumption) hp2.2 (by assumption); dsimp only at hq ⊢; omega)) | ((rw [cpy_len (by simp only [List.length_take] at *; omega)]; done)) | ((dsimp only; rw [cpy_len (by simp only [List.length_take, List.length_replicate, hM, hW] at *; omega)]; simp only [List.length_replicate, hM, hW]; omega)) | ((have hp := pre_len (xs := x1.1) (b := x1.2) (by omega); rw [cpy_len (by rw [List.length_take]; omega)]; done)) | ((simp only [hM, hW, List.length_replicate] at *; omega)) | ((rw [cpy_len (by simp only [List.length_take, List.length_replicate, hM, hW] at *; omega)]))⟩ (by first | omega | assumption | (simp only [List.length_append, List.length_cons, List.length_nil, List.length_replicate, put_len] at * <;> omega) | ((have hq := rep_step (by assumption) (by assumption) hp2.2 (by assumption); dsimp only at hq ⊢; omega)) | ((rw [cpy_len (by simp only [List.length_take] at *; omega)]; done)) | ((dsimp only; rw [cpy_len (by simp only [List.length_take, List.length_replicate, hM, hW] at *; omega)]; simp only [List.length_replicate, hM, hW]; omega)) | ((have hp := pre_len (xs := x1.1) (b := x1.2) (by omega); rw [cpy_len (by rw [List.length_take]; omega)]; done)) | ((simp only [hM, hW, List.length_replicate] at *; omega)) | ((rw [cpy_len (by simp only [List.length_take, List.length_replicate, hM, hW] at *; omega)]))) (sub_of [] ⟨os_len rfl (by first | (simp only [put_len]; done) | (first | omega | assumption | (simp only [List.length_append, List.length_cons, List.length_nil, List.length_replicate, put_len] at * <;> omega) | ((have hq := rep_step (by assumption) (by assumption) hp2.2 (by assumption); dsimp only at hq ⊢; omega)) | ((rw [cpy_len (by simp only [List.length_take] at *; omega)]; done)) | ((dsimp only; rw [cpy_len (by simp only [List.length_take, List.length_replicate, hM, hW] at *; omega)]; simp only [List.length_replicate, hM, hW]; omega)) | ((have hp := pre_len (xs := x1.1) (b := x1.2) (by omega); rw [cpy_len (by rw [List.length_take]; omega)]; done)) | ((simp only [hM, hW, List.length_replicate] at *; omega)) | ((rw [cpy_len (by simp only [List.length_take, List.length_replicate, hM, hW] at *; omega)])))), rfl, trivial⟩ ⟨rfl, trivial⟩ rfl)
        · try simp only [Bool.and_eq_true, Bool.or_eq_true, Bool.not_eq_true', Bool.and_eq_false_iff, Bool.or_eq_false_iff, Bool.not_eq_false', decide_eq_true_eq, decide_eq_false_iff_not, beq_iff_eq, bne_iff_ne, beq_eq_false_iff_ne, bne_eq_false_iff_eq, Bool.true_and, ne_eq, Decidable.not_not, Int.not_lt, Int.not_le, Nat.not_lt, Nat.not_le, strB_nil, strB_nil', strB_nnil, strB_nnil'] at h6
          refine run_exit rfl ?_
          exact run_cont hk4 (x1.1, x1.2) ⟨by first | omega | assumption | (simp only [List.length_append, List.length_cons, List.length_nil, List.length_replicate, put_len] at * <;> omega) | ((have hq := rep_step (by assumption) (by assumption) hp2.2 (by assumption); dsimp only at hq ⊢; omega)) | ((rw [cpy_len (by simp only [List.length_take] at *; omega)]; done)) | ((dsimp only; rw [cpy_len (by simp only [List.length_take, List.length_replicate, hM, hW] at *; omega)]; simp only [List.length_replicate, hM, hW]; omega)) | ((have hp := pre_len (xs := x1.1) (b := x1.2) (by omega); rw [cpy_len (by rw [List.length_take]; omega)]; done)) | ((simp only [hM, hW, List.length_replicate] at *; omega)) | ((rw [cpy_len (by simp only [List.length_take, List.length_replicate, hM, hW] at *; omega)])), by first | omega | assumption | (simp only [List.length_append, List.length_cons, List.length_nil, List.length_replicate, put_len] at * <;> omega) | ((have hq := rep_step (by assumption) (by assumption) hp2.2 (by assumption); dsimp only at hq ⊢; omega)) | ((rw [cpy_len (by simp only [List.length_take] at *; omega)]; done)) | ((dsimp only; rw [cpy_len (by simp only [List.length_take, List.length_replicate, hM, hW] at *; omega)]; simp only [List.length_replicate, hM, hW]; omega)) | ((have hp := pre_len (xs := x1.1) (b := x1.2) (by omega); rw [cpy_len (by rw [List.length_take]; omega)]; done)) | ((simp only [hM, hW, List.length_replicate] at *; omega)) | ((rw [cpy_len (by simp only [List.length_take, List.length_replicate, hM, hW] at *; omega)]))⟩ (sub_of [] ⟨rfl, trivial⟩ ⟨rfl, trivial⟩ rfl)

/-! ### impl_escape_mayBe -/
theorem c_impl_escape_mayBe (e : gescape) (junction : Int) (second : Int) (hp1 : 0 ≤ junction ∧ junction < e.arrivals.length) : Con Try.prog 84 [.st [.int .i64 e.mine.Junctions, .sl 7 (e.mine.Airways.map gAirway.v), .sl 1 (e.arrivals.map (V.int .i64)), .int .i64 e.blocked], .int .i64 junction, .int .i64 second] [] (.bool (m_impl_escape_mayBe e junction second)) ([]) := by
  refine con_intro (out := fun r : Bool => ((.bool r : V), ([] : List (Nat × Option O)))) (r := (m_impl_escape_mayBe e junction second)) Try.func84 rfl Try.ntmps84 rfl ?_
  refine run_factS (t := 0) 1 rfl rfl fun hl => ?_
  have l1 := hl; clear hl; simp only [List.length_map] at l1
  refine run_factS (t := 0) 2 rfl rfl fun hl => ?_
  have l2 := hl; clear hl; simp only [List.length_map] at l2
  refine run_seq ?_
  refine run_region (q_box (l := 200) .n rfl (.t rfl) rfl rfl rfl rfl <|
      q_assign .n (.c rfl) rfl <|
      Lex.nil) ?_
  refine run_seq ?_
  refine run_region (q_fld_ow .n (.t rfl) fo_78_1 rfl <|
      q_ld1_ow .n (.t rfl) rfl (.inr rfl) (fun _ => rfl) rfl ic_25 rfl <|
      q_move .n (.t rfl) rfl <|
      q_idx_rm .n (.t rfl) (.t rfl) sl_25 (fun _ => by first | omega | assumption | (simp only [List.length_append, List.length_cons, List.length_nil, List.length_replicate, put_len] at * <;> omega)) rfl <|
      q_ld1_ro .n (.t rfl) rfl ic_2 rfl <|
      q_int .n (.t rfl) (.c rfl) rfl rfl <|
      q_move .n (.t rfl) rfl <|
      q_fld_ow (.f rfl rfl) (.t rfl) fo_78_1 rfl <|
      q_ld1_ow (.f rfl rfl) (.u rfl id) rfl (.inr rfl) (fun _ => rfl) rfl ic_25 rfl <|
      q_move (.f rfl rfl) (.t rfl) rfl <|
      q_idx_rm (.f rfl rfl) (.u rfl id) (.u rfl id) sl_25 (fun hg => by simp only [Bool.and_eq_true, Bool.or_eq_true, Bool.not_eq_true', Bool.and_eq_false_iff, Bool.or_eq_false_iff, Bool.not_eq_false', decide_eq_true_eq, decide_eq_false_iff_not, beq_iff_eq, bne_iff_ne, beq_eq_false_iff_ne, bne_eq_false_iff_eq, Bool.true_and, ne_eq, Decidable.not_not, Int.not_lt, Int.not_le, Nat.not_lt, Nat.not_le, strB_nil, strB_nil', strB_nnil, strB_nnil'] at hg; first | omega | assumption | (simp only [List.length_append, List.length_cons, List.length_nil, List.length_replicate, put_len] at * <;> omega)) rfl <|
      q_ld1_ro (.f rfl rfl) (.u rfl id) rfl ic_2 rfl <|
      q_move (.f rfl rfl) (.t rfl) rfl <|
      q_int (.f rfl rfl) (.u rfl id) (.u rfl id) rfl rfl <|
      q_or .n (.t rfl) (.u rfl id) rfl <|
      q_assign .n (.t rfl) rfl <|
      Lex.nil) ?_
  exact run_ret [] (.cons (.t rfl rfl) .nil) rfl trivial rfl

/-! ### impl_divUp -/
theorem c_impl_divUp (a : Int) (b : Int) (hp1 : ¬ b = 0) : Con Try.prog 105 [.int .i64 a, .int .i64 b] [] (.int .i64 (m_impl_divUp a b)) ([]) := by
  refine con_intro (out := fun r : Int => ((.int .i64 r : V), ([] : List (Nat × Option O)))) (r := (m_impl_divUp a b)) Try.func105 rfl Try.ntmps105 rfl ?_
  refine run_seq ?_
  refine run_region (q_assign .n (.c rfl) rfl <|
      Lex.nil) ?_
  refine run_seq ?_
  refine run_region (q_move .n (.t rfl) rfl <|
      q_move .n (.t rfl) rfl <|
      q_int .n (.t rfl) (.t rfl) rfl rfl <|
      q_int .n (.t rfl) (.c rfl) rfl rfl <|
      q_move .n (.t rfl) rfl <|
      q_quo .n (.t rfl) (.t rfl) (fun hg => by first | omega | assumption | (simp only [List.length_append, List.length_cons, List.length_nil, List.length_replicate, put_len] at * <;> omega)) rfl <|
      q_assign .n (.t rfl) rfl <|
      Lex.nil) ?_
  exact run_ret [] (.cons (.t rfl rfl) .nil) rfl trivial rfl

/-! ### impl_Airway_walkTime -/
theorem c_impl_Airway_walkTime (a : gAirway) (speed : Int) (hp1 : 10 ≤ speed ∧ speed ≤ 300) : Con Try.prog 85 [.st [.str a.Id, .int .i64 a.From, .int .i64 a.To, .int .i64 a.Length, .int .i64 a.Section, .int .i64 a.Friction, .int .i64 a.Shock], .int .i64 speed] [] (.int .i64 (m_impl_Airway_walkTime a speed)) ([]) := by
  refine con_intro (out := fun r : Int => ((.int .i64 r : V), ([] : List (Nat × Option O)))) (r := (m_impl_Airway_walkTime a speed)) Try.func85 rfl Try.ntmps85 rfl ?_
  refine run_seq ?_
  refine run_region (q_box (l := 200) .n rfl (.t rfl) rfl rfl rfl rfl <|
      q_assign .n (.c rfl) rfl <|
      Lex.nil) ?_
  refine run_seq ?_
  refine run_region (q_fld_ow .n (.t rfl) fo_120_3 rfl <|
      q_ld1_ow .n (.t rfl) rfl (.inr rfl) (fun _ => rfl) rfl ic_2 rfl <|
      q_int .n (.c rfl) (.t rfl) rfl rfl <|
      q_move .n (.t rfl) rfl <|
      q_call0 (full := false) .n .f en_105 (.cons (.t rfl) (.cons (.t rfl) .nil)) (.cons (.b (.a (.same rfl))) (.cons (.b (.a (.same rfl))) .nil)) (fun hg => c_impl_divUp (IntKind.wrap .i64 (100 * a.Length)) speed (by first | omega | assumption | (simp only [List.length_append, List.length_cons, List.length_nil, List.length_replicate, put_len] at * <;> omega))) rfl (fun h => Bool.noConfusion h) rfl <|
      q_assign .n (.t rfl) rfl <|
      Lex.nil) ?_
  exact run_ret [] (.cons (.t rfl rfl) .nil) rfl trivial rfl

/-! ### impl_escape_times -/
set_option maxRecDepth 100000 in
set_option maxHeartbeats 4000000 in
theorem c_impl_escape_times (e : gescape) (c_ : gCrew) (start : Int) (hp1 : MineIn e.mine) (hp2 : (e.arrivals.length : Int) = e.mine.Junctions) (hp3 : CrewIn e.mine c_) (hp4 : 0 ≤ start ∧ start ≤ 36000) : Con Try.prog 44 [.st [.int .i64 e.mine.Junctions, .sl 7 (e.mine.Airways.map gAirway.v), .sl 1 (e.arrivals.map (V.int .i64)), .int .i64 e.blocked], .st [.str c_.Id, .int .i64 c_.Junction, .int .i64 c_.Speed], .int .i64 start] [] (.os 100 (m_impl_escape_times e c_ start).length) ([(100, some (.row 2 1 ((m_impl_escape_times e c_ start).map (V.int .i64))))]) := by
  refine con_intro (out := fun r : (List Int) => ((.os 100 r.length : V), ([(100, some (.row 2 1 (r.map (V.int .i64))))] : List (Nat × Option O)))) (r := (m_impl_escape_times e c_ start)) Try.func44 rfl Try.ntmps44 rfl ?_
  have hRl := rep_len hp1.1
  have hJ := hp1.1
  have hA := hp1.2.1
  have hC1 := hp3.1
  have hC2 := hp3.2
  have hJ1 := hp1.1
  have hA1 := hp1.2.1
  refine run_factS (t := 0) 1 rfl rfl fun hl => ?_
  have l1 := hl; clear hl; simp only [List.length_map] at l1
  refine run_factS (t := 0) 2 rfl rfl fun hl => ?_
  have l2 := hl; clear hl; simp only [List.length_map] at l2
  refine run_seq ?_
  refine run_region (q_box (l := 200) .n rfl (.t rfl) rfl rfl rfl rfl <|
      q_box (l := 201) .n rfl (.t rfl) rfl rfl rfl rfl <|
      q_assign .n (.c rfl) rfl <|
      Lex.nil) ?_
  refine run_seq ?_
  refine run_region (q_bslicem ([(-1)] : List Int) (f := V.int .i64) (l := 202) .n rfl rfl (.cons (.c rfl) .nil) rfl si_25 zv_2 rfl rfl rfl <|
      q_fld_ow .n (.t rfl) fo_78_0 rfl <|
      q_fld_ow .n (.t rfl) fo_34_0 rfl <|
      q_ld1_ow .n (.t rfl) rfl (.inr rfl) (fun _ => rfl) rfl ic_2 rfl <|
      q_callM (full := true) [] [(100, 203)] .n rfl .f en_83 (.cons (.t rfl) (.cons (.t rfl) .nil)) (.cons (.b (.a (.own rfl rfl rfl (take_all (by simp only [len_map, put_len])) (by simp only [len_map, put_len])))) (.cons (.b (.a (.same rfl))) .nil)) (c_slices_Repeat_int64 ([(-1)] : List Int) e.mine.Junctions (by first | omega | assumption | (simp only [List.length_append, List.length_cons, List.length_nil, List.length_replicate, put_len] at * <;> omega) | (exact cw_start hp1 hp3 hp4) | (exact cw_pot hp1 hp3 hp4) | (exact SmI.refl (by assumption)) | (exact SmI.mu (by assumption) (by assumption)) | (exact And.left (by assumption)) | ((have hS : SmI e.mine.Junctions x1.1 x3.1 x3.2.1 := (by assumption); have hl := hS.1.1; have hw0 := hp1.at (i := x2.2.2) (by omega); unfold AirIn at hw0; have hw1 := at2 hw0 (q := x3.2.2) (by omega); omega)) | ((have hS : SmI e.mine.Junctions x1.1 x3.1 x3.2.1 := (by assumption); have hl := hS.1.1; exact times_put hp1 hp3.2 hS (by omega) (by omega) (by assumption)))) (by first | omega | assumption | (simp only [List.length_append, List.length_cons, List.length_nil, List.length_replicate, put_len] at * <;> omega) | (exact cw_start hp1 hp3 hp4) | (exact cw_pot hp1 hp3 hp4) | (exact SmI.refl (by assumption)) | (exact SmI.mu (by assumption) (by assumption)) | (exact And.left (by assumption)) | ((have hS : SmI e.mine.Junctions x1.1 x3.1 x3.2.1 := (by assumption); have hl := hS.1.1; have hw0 := hp1.at (i := x2.2.2) (by omega); unfold AirIn at hw0; have hw1 := at2 hw0 (q := x3.2.2) (by omega); omega)) | ((have hS : SmI e.mine.Junctions x1.1 x3.1 x3.2.1 := (by assumption); have hl := hS.1.1; exact times_put hp1 hp3.2 hS (by omega) (by omega) (by assumption))))) trivial rfl rfl (fun _ => rfl) (fun _ => (hr_row (fun _ => rfl) hr_nil)) rfl <|
      q_assign .n (.t rfl) rfl <|
      Lex.nil) ?_
  refine run_seq ?_
  refine run_seq ?_
  refine run_region (q_ldN_ow .n (.t rfl) rfl (.inr rfl) ag_78 (fun _ => rfl) rfl rfl <|
      q_fld_ow .n (.t rfl) fo_37_1 rfl <|
      q_ld1_ow .n (.t rfl) rfl (.inr rfl) (fun _ => rfl) rfl ic_2 rfl <|
      q_move .n (.t rfl) rfl <|
      q_call0 (full := false) .n .f en_84 (.cons (.t rfl) (.cons (.t rfl) (.cons (.t rfl) .nil))) (.cons (.sts rfl) (.cons (.b (.a (.same rfl))) (.cons (.b (.a (.same rfl))) .nil))) (fun hg => c_impl_escape_mayBe e c_.Junction start (by first | omega | assumption | (simp only [List.length_append, List.length_cons, List.length_nil, List.length_replicate, put_len] at * <;> omega) | (exact cw_start hp1 hp3 hp4) | (exact cw_pot hp1 hp3 hp4) | (exact SmI.refl (by assumption)) | (exact SmI.mu (by assumption) (by assumption)) | (exact And.left (by assumption)) | ((have hS : SmI e.mine.Junctions x1.1 x3.1 x3.2.1 := (by assumption); have hl := hS.1.1; have hw0 := hp1.at (i := x2.2.2) (by omega); unfold AirIn at hw0; have hw1 := at2 hw0 (q := x3.2.2) (by omega); omega)) | ((have hS : SmI e.mine.Junctions x1.1 x3.1 x3.2.1 := (by assumption); have hl := hS.1.1; exact times_put hp1 hp3.2 hS (by omega) (by omega) (by assumption))))) rfl (fun h => Bool.noConfusion h) rfl <|
      q_not .n (.t rfl) rfl <|
      Lex.nil) ?_
  refine run_cond (.t rfl) rfl (fun h3 => ?_) (fun h3 => ?_)
  · try simp only [Bool.and_eq_true, Bool.or_eq_true, Bool.not_eq_true', Bool.and_eq_false_iff, Bool.or_eq_false_iff, Bool.not_eq_false', decide_eq_true_eq, decide_eq_false_iff_not, beq_iff_eq, bne_iff_ne, beq_eq_false_iff_ne, bne_eq_false_iff_eq, Bool.true_and, ne_eq, Decidable.not_not, Int.not_lt, Int.not_le, Nat.not_lt, Nat.not_le, strB_nil, strB_nil', strB_nnil, strB_nnil'] at h3
    refine run_seq ?_
    refine run_region (q_move .n (.t rfl) rfl <|
        q_assign .n (.t rfl) rfl <|
        Lex.nil) ?_
    exact run_ret [(100, 203)] (.cons (.t rfl rfl) .nil) (by first | rfl | (simp only [put_len]; rfl)) ⟨rfl, trivial⟩ rfl
  · try simp only [Bool.and_eq_true, Bool.or_eq_true, Bool.not_eq_true', Bool.and_eq_false_iff, Bool.or_eq_false_iff, Bool.not_eq_false', decide_eq_true_eq, decide_eq_false_iff_not, beq_iff_eq, bne_iff_ne, beq_eq_false_iff_ne, bne_eq_false_iff_eq, Bool.true_and, ne_eq, Decidable.not_not, Int.not_lt, Int.not_le, Nat.not_lt, Nat.not_le, strB_nil, strB_nil', strB_nnil, strB_nnil'] at h3
    refine run_skip ?_
    refine run_seq ?_
    refine run_region (q_move .n (.t rfl) rfl <|
        q_fld_ow .n (.t rfl) fo_37_1 rfl <|
        q_ld1_ow .n (.t rfl) rfl (.inr rfl) (fun _ => rfl) rfl ic_2 rfl <|
        q_move .n (.t rfl) rfl <|
        q_idx_ow .n (.t rfl) (.t rfl) sl_25 (fun _ => by first | omega | assumption | (simp only [List.length_append, List.length_cons, List.length_nil, List.length_replicate, put_len] at * <;> omega) | (exact cw_start hp1 hp3 hp4) | (exact cw_pot hp1 hp3 hp4) | (exact SmI.refl (by assumption)) | (exact SmI.mu (by assumption) (by assumption)) | (exact And.left (by assumption)) | ((have hS : SmI e.mine.Junctions x1.1 x3.1 x3.2.1 := (by assumption); have hl := hS.1.1; have hw0 := hp1.at (i := x2.2.2) (by omega); unfold AirIn at hw0; have hw1 := at2 hw0 (q := x3.2.2) (by omega); omega)) | ((have hS : SmI e.mine.Junctions x1.1 x3.1 x3.2.1 := (by assumption); have hl := hS.1.1; exact times_put hp1 hp3.2 hS (by omega) (by omega) (by assumption)))) rfl <|
        q_st_rowm start .n rfl (.t rfl) (.t rfl) rfl ts_2 (by first | omega | assumption | (simp only [List.length_append, List.length_cons, List.length_nil, List.length_replicate, put_len] at * <;> omega) | (exact cw_start hp1 hp3 hp4) | (exact cw_pot hp1 hp3 hp4) | (exact SmI.refl (by assumption)) | (exact SmI.mu (by assumption) (by assumption)) | (exact And.left (by assumption)) | ((have hS : SmI e.mine.Junctions x1.1 x3.1 x3.2.1 := (by assumption); have hl := hS.1.1; have hw0 := hp1.at (i := x2.2.2) (by omega); unfold AirIn at hw0; have hw1 := at2 hw0 (q := x3.2.2) (by omega); omega)) | ((have hS : SmI e.mine.Junctions x1.1 x3.1 x3.2.1 := (by assumption); have hl := hS.1.1; exact times_put hp1 hp3.2 hS (by omega) (by omega) (by assumption)))) rfl rfl <|
        Lex.nil) ?_
    refine run_seq ?_
    refine run_seq ?_
    refine run_region (q_assign .n (.c rfl) rfl <|
        Lex.nil) ?_
    refine run_block ?_
    refine run_LOOP (m_impl_escape_times_b1 e c_ start) _ _ _ rfl (fun (x1 : (List Int) × Bool) => SmB e.mine.Junctions x1.1) (fun x1 => SmB e.mine.Junctions x1.1) (fun x1 => pot x1.1 + (bif x1.2 then 1 else 0)) (fun x1 => ⟨[(3, some (true, .op 200 0 0 0)), (4, some (true, .op 201 0 0 0)), (7, some (true, .os 203 x1.1.length)), (8, some (true, .bool x1.2))], [(200, some (.box 78 [.int .i64 e.mine.Junctions, .sl 7 (e.mine.Airways.map gAirway.v), .sl 1 (e.arrivals.map (V.int .i64)), .int .i64 e.blocked])), (201, some (.box 37 [.str c_.Id, .int .i64 c_.Junction, .int .i64 c_.Speed])), (203, some (.row 2 1 (x1.1.map (V.int .i64))))]⟩) (fun x1 => ⟨[(7, some (true, .os 203 x1.1.length))], [(203, some (.row 2 1 (x1.1.map (V.int .i64))))]⟩) (by first | omega | assumption | (simp only [List.length_append, List.length_cons, List.length_nil, List.length_replicate, put_len] at * <;> omega) | (exact cw_start hp1 hp3 hp4) | (exact cw_pot hp1 hp3 hp4) | (exact SmI.refl (by assumption)) | (exact SmI.mu (by assumption) (by assumption)) | (exact And.left (by assumption)) | ((have hS : SmI e.mine.Junctions x1.1 x3.1 x3.2.1 := (by assumption); have hl := hS.1.1; have hw0 := hp1.at (i := x2.2.2) (by omega); unfold AirIn at hw0; have hw1 := at2 hw0 (q := x3.2.2) (by omega); omega)) | ((have hS : SmI e.mine.Junctions x1.1 x3.1 x3.2.1 := (by assumption); have hl := hS.1.1; exact times_put hp1 hp3.2 hS (by omega) (by omega) (by assumption)))) (by first | omega | assumption | (simp only [List.length_append, List.length_cons, List.length_nil, List.length_replicate, put_len] at * <;> omega) | (exact cw_start hp1 hp3 hp4) | (exact cw_pot hp1 hp3 hp4) | (exact SmI.refl (by assumption)) | (exact SmI.mu (by assumption) (by assumption)) | (exact And.left (by assumption)) | ((have hS : SmI e.mine.Junctions x1.1 x3.1 x3.2.1 := (by assumption); have hl := hS.1.1; have hw0 := hp1.at (i := x2.2.2) (by omega); unfold AirIn at hw0; have hw1 := at2 hw0 (q := x3.2.2) (by omega); omega)) | ((have hS : SmI e.mine.Junctions x1.1 x3.1 x3.2.1 := (by assumption); have hl := hS.1.1; exact times_put hp1 hp3.2 hS (by omega) (by omega) (by assumption)))) (sub_of [] ⟨rfl, rfl, os_len rfl (by first | (simp only [put_len]; done) | (first | omega | assumption | (simp only [List.length_append, List.length_cons, List.length_nil, List.length_replicate, put_len] at * <;> omega) | (exact cw_start hp1 hp3 hp4) | (exact cw_pot hp1 hp3 hp4) | (exact SmI.refl (by assumption)) | (exact SmI.mu (by assumption) (by assumption)) | (exact And.left (by assumption)) | ((have hS : SmI e.mine.Junctions x1.1 x3.1 x3.2.1 := (by assumption); have hl := hS.1.1; have hw0 := hp1.at (i := x2.2.2) (by omega); unfold AirIn at hw0; have hw1 := at2 hw0 (q := x3.2.2) (by omega); omega)) | ((have hS : SmI e.mine.Junctions x1.1 x3.1 x3.2.1 := (by assumption); have hl := hS.1.1; exact times_put hp1 hp3.2 hS (by omega) (by omega) (by assumption))))), rfl, trivial⟩ ⟨rfl, rfl, rfl, trivial⟩ rfl) ?_ ?_
    · intro x1 i32
      have e33 := i32
      try dsimp only at *
      refine run_seq ?_
      refine run_region (q_move .n (.t rfl) rfl <|
          q_assign .n (.t rfl) rfl <|
          Lex.nil) ?_
      exact run_ret [(100, 203)] (.cons (.t rfl rfl) .nil) (by first | rfl | (simp only [put_len]; rfl)) ⟨rfl, trivial⟩ rfl
    · intro rec1 k1 hk4 x1 i5
      have e34 := i5
      try dsimp only at *
      refine run_seq ?_
      refine run_seq ?_
      refine run_region (q_move .n (.t rfl) rfl <|
          Lex.nil) ?_
      refine run_cond (.t rfl) rfl (fun h6 => ?_) (fun h6 => ?_)
      · try simp only [Bool.and_eq_true, Bool.or_eq_true, Bool.not_eq_true', Bool.and_eq_false_iff, Bool.or_eq_false_iff, Bool.not_eq_false', decide_eq_true_eq, decide_eq_false_iff_not, beq_iff_eq, bne_iff_ne, beq_eq_false_iff_ne, bne_eq_false_iff_eq, Bool.true_and, ne_eq, Decidable.not_not, Int.not_lt, Int.not_le, Nat.not_lt, Nat.not_le, strB_nil, strB_nil', strB_nnil, strB_nnil'] at h6
        refine run_skip ?_
        refine run_block ?_
        refine run_seq ?_
        refine run_region (q_assign .n (.c rfl) rfl <|
            Lex.nil) ?_
        refine run_seq ?_
        refine run_region (q_fld_ow .n (.t rfl) fo_78_0 rfl <|
            q_fld_ow .n (.t rfl) fo_34_1 rfl <|
            q_ld1_ow .n (.t rfl) rfl (.inr rfl) (fun _ => rfl) rfl ic_32 rfl <|
            q_len .n (.t rfl) rfl len_map ss_32 rfl <|
            q_move .n (.c rfl) rfl <|
            Lex.nil) ?_
        refine run_block ?_
        refine run_LOOP (m_impl_escape_times_b2 e c_ start rec1 k1 x1) _ _ _ rfl (fun (x2 : (List Int) × Bool × Int) => 0 ≤ x2.2.2 ∧ x2.2.2 ≤ (e.mine.Airways.length : Int) ∧ SmI e.mine.Junctions x1.1 x2.1 x2.2.1) (fun x2 => 0 ≤ x2.2.2 ∧ x2.2.2 ≤ (e.mine.Airways.length : Int) ∧ SmI e.mine.Junctions x1.1 x2.1 x2.2.1 ∧ (e.mine.Airways.length : Int) ≤ x2.2.2) (fun x2 => ((e.mine.Airways.length : Int) - x2.2.2 : Int).toNat) (fun x2 => ⟨[(3, some (true, .op 200 0 0 0)), (4, some (true, .op 201 0 0 0)), (7, some (true, .os 203 x2.1.length)), (8, some (true, .bool x2.2.1)), (35, some (true, .sl 7 (e.mine.Airways.map gAirway.v))), (36, some (true, .int .i64 (e.mine.Airways.length : Int))), (37, some (true, .int .i64 x2.2.2))], [(200, some (.box 78 [.int .i64 e.mine.Junctions, .sl 7 (e.mine.Airways.map gAirway.v), .sl 1 (e.arrivals.map (V.int .i64)), .int .i64 e.blocked])), (201, some (.box 37 [.str c_.Id, .int .i64 c_.Junction, .int .i64 c_.Speed])), (203, some (.row 2 1 (x2.1.map (V.int .i64))))]⟩) (fun x2 => ⟨[(3, some (true, .op 200 0 0 0)), (4, some (true, .op 201 0 0 0)), (7, some (true, .os 203 x2.1.length)), (8, some (true, .bool x2.2.1))], [(200, some (.box 78 [.int .i64 e.mine.Junctions, .sl 7 (e.mine.Airways.map gAirway.v), .sl 1 (e.arrivals.map (V.int .i64)), .int .i64 e.blocked])), (201, some (.box 37 [.str c_.Id, .int .i64 c_.Junction, .int .i64 c_.Speed])), (203, some (.row 2 1 (x2.1.map (V.int .i64))))]⟩) ⟨by first | omega | assumption | (simp only [List.length_append, List.length_cons, List.length_nil, List.length_replicate, put_len] at * <;> omega) | (exact cw_start hp1 hp3 hp4) | (exact cw_pot hp1 hp3 hp4) | (exact SmI.refl (by assumption)) | (exact SmI.mu (by assumption) (by assumption)) | (exact And.left (by assumption)) | ((have hS : SmI e.mine.Junctions x1.1 x3.1 x3.2.1 := (by assumption); have hl := hS.1.1; have hw0 := hp1.at (i := x2.2.2) (by omega); unfold AirIn at hw0; have hw1 := at2 hw0 (q := x3.2.2) (by omega); omega)) | ((have hS : SmI e.mine.Junctions x1.1 x3.1 x3.2.1 := (by assumption); have hl := hS.1.1; exact times_put hp1 hp3.2 hS (by omega) (by omega) (by assumption))), by first | omega | assumption | (simp only [List.length_append, List.length_cons, List.length_nil, List.length_replicate, put_len] at * <;> omega) | (exact cw_start hp1 hp3 hp4) | (exact cw_pot hp1 hp3 hp4) | (exact SmI.refl (by assumption)) | (exact SmI.mu (by assumption) (by assumption)) | (exact And.left (by assumption)) | ((have hS : SmI e.mine.Junctions x1.1 x3.1 x3.2.1 := (by assumption); have hl := hS.1.1; have hw0 := hp1.at (i := x2.2.2) (by omega); unfold AirIn at hw0; have hw1 := at2 hw0 (q := x3.2.2) (by omega); omega)) | ((have hS : SmI e.mine.Junctions x1.1 x3.1 x3.2.1 := (by assumption); have hl := hS.1.1; exact times_put hp1 hp3.2 hS (by omega) (by omega) (by assumption))), by first | omega | assumption | (simp only [List.length_append, List.length_cons, List.length_nil, List.length_replicate, put_len] at * <;> omega) | (exact cw_start hp1 hp3 hp4) | (exact cw_pot hp1 hp3 hp4) | (exact SmI.refl (by assumption)) | (exact SmI.mu (by assumption) (by assumption)) | (exact And.left (by assumption)) | ((have hS : SmI e.mine.Junctions x1.1 x3.1 x3.2.1 := (by assumption); have hl := hS.1.1; have hw0 := hp1.at (i := x2.2.2) (by omega); unfold AirIn at hw0; have hw1 := at2 hw0 (q := x3.2.2) (by omega); omega)) | ((have hS : SmI e.mine.Junctions x1.1 x3.1 x3.2.1 := (by assumption); have hl := hS.1.1; exact times_put hp1 hp3.2 hS (by omega) (by omega) (by assumption)))⟩ (by first | omega | assumption | (simp only [List.length_append, List.length_cons, List.length_nil, List.length_replicate, put_len] at * <;> omega) | (exact cw_start hp1 hp3 hp4) | (exact cw_pot hp1 hp3 hp4) | (exact SmI.refl (by assumption)) | (exact SmI.mu (by assumption) (by assumption)) | (exact And.left (by assumption)) | ((have hS : SmI e.mine.Junctions x1.1 x3.1 x3.2.1 := (by assumption); have hl := hS.1.1; have hw0 := hp1.at (i := x2.2.2) (by omega); unfold AirIn at hw0; have hw1 := at2 hw0 (q := x3.2.2) (by omega); omega)) | ((have hS : SmI e.mine.Junctions x1.1 x3.1 x3.2.1 := (by assumption); have hl := hS.1.1; exact times_put hp1 hp3.2 hS (by omega) (by omega) (by assumption)))) (sub_of [] ⟨rfl, rfl, rfl, rfl, rfl, rfl, rfl, trivial⟩ ⟨rfl, rfl, rfl, trivial⟩ rfl) ?_ ?_
        · intro x2 i24
          obtain ⟨e25, e26, e27, e28⟩ := i24
          try dsimp only at *
          refine run_endB ?_
          exact run_again (x2.1, x2.2.1) (by first | omega | assumption | (simp only [List.length_append, List.length_cons, List.length_nil, List.length_replicate, put_len] at * <;> omega) | (exact cw_start hp1 hp3 hp4) | (exact cw_pot hp1 hp3 hp4) | (exact SmI.refl (by assumption)) | (exact SmI.mu (by assumption) (by assumption)) | (exact And.left (by assumption)) | ((have hS : SmI e.mine.Junctions x1.1 x3.1 x3.2.1 := (by assumption); have hl := hS.1.1; have hw0 := hp1.at (i := x2.2.2) (by omega); unfold AirIn at hw0; have hw1 := at2 hw0 (q := x3.2.2) (by omega); omega)) | ((have hS : SmI e.mine.Junctions x1.1 x3.1 x3.2.1 := (by assumption); have hl := hS.1.1; exact times_put hp1 hp3.2 hS (by omega) (by omega) (by assumption)))) (by first | omega | assumption | (simp only [List.length_append, List.length_cons, List.length_nil, List.length_replicate, put_len] at * <;> omega) | (exact cw_start hp1 hp3 hp4) | (exact cw_pot hp1 hp3 hp4) | (exact SmI.refl (by assumption)) | (exact SmI.mu (by assumption) (by assumption)) | (exact And.left (by assumption)) | ((have hS : SmI e.mine.Junctions x1.1 x3.1 x3.2.1 := (by assumption); have hl := hS.1.1; have hw0 := hp1.at (i := x2.2.2) (by omega); unfold AirIn at hw0; have hw1 := at2 hw0 (q := x3.2.2) (by omega); omega)) | ((have hS : SmI e.mine.Junctions x1.1 x3.1 x3.2.1 := (by assumption); have hl := hS.1.1; exact times_put hp1 hp3.2 hS (by omega) (by omega) (by assumption)))) (sub_of [] ⟨rfl, rfl, rfl, rfl, trivial⟩ ⟨rfl, rfl, rfl, trivial⟩ rfl)
        · intro rec2 k2 hk7 x2 i8
          obtain ⟨e29, e30, e31⟩ := i8
          try dsimp only at *
          refine run_seq ?_
          refine run_region (q_int .n (.t rfl) (.t rfl) rfl rfl <|
              Lex.nil) ?_
          refine run_seq ?_
          refine run_cond (.t rfl) rfl (fun h9 => ?_) (fun h9 => ?_)
          · try simp only [Bool.and_eq_true, Bool.or_eq_true, Bool.not_eq_true', Bool.and_eq_false_iff, Bool.or_eq_false_iff, Bool.not_eq_false', decide_eq_true_eq, decide_eq_false_iff_not, beq_iff_eq, bne_iff_ne, beq_eq_false_iff_ne, bne_eq_false_iff_eq, Bool.true_and, ne_eq, Decidable.not_not, Int.not_lt, Int.not_le, Nat.not_lt, Nat.not_le, strB_nil, strB_nil', strB_nnil, strB_nnil'] at h9
            refine run_skip ?_
            refine run_seq ?_
            refine run_block ?_
            refine run_seq ?_
            refine run_region (q_move .n (.t rfl) rfl <|
                q_idx_rm .n (.t rfl) (.t rfl) sl_32 (fun _ => by first | omega | assumption | (simp only [List.length_append, List.length_cons, List.length_nil, List.length_replicate, put_len] at * <;> omega) | (exact cw_start hp1 hp3 hp4) | (exact cw_pot hp1 hp3 hp4) | (exact SmI.refl (by assumption)) | (exact SmI.mu (by assumption) (by assumption)) | (exact And.left (by assumption)) | ((have hS : SmI e.mine.Junctions x1.1 x3.1 x3.2.1 := (by assumption); have hl := hS.1.1; have hw0 := hp1.at (i := x2.2.2) (by omega); unfold AirIn at hw0; have hw1 := at2 hw0 (q := x3.2.2) (by omega); omega)) | ((have hS : SmI e.mine.Junctions x1.1 x3.1 x3.2.1 := (by assumption); have hl := hS.1.1; exact times_put hp1 hp3.2 hS (by omega) (by omega) (by assumption)))) rfl <|
                q_ldN_ro .n (.t rfl) ag_120 rfl rfl rfl <|
                q_alloc (l := 204) .n rfl zv_120 rfl rfl <|
                q_assign .n (.t rfl) rfl <|
                q_st_boxm [.str (at' e.mine.Airways x2.2.2).Id, .int .i64 (at' e.mine.Airways x2.2.2).From, .int .i64 (at' e.mine.Airways x2.2.2).To, .int .i64 (at' e.mine.Airways x2.2.2).Length, .int .i64 (at' e.mine.Airways x2.2.2).Section, .int .i64 (at' e.mine.Airways x2.2.2).Friction, .int .i64 (at' e.mine.Airways x2.2.2).Shock] .n rfl (.t rfl) (.t rfl) rfl ts_120 rfl rfl <|
                Lex.nil) ?_
            refine run_seq ?_
            refine run_region (q_fld_ow .n (.t rfl) fo_120_1 rfl <|
                q_ld1_ow .n (.t rfl) rfl (.inr rfl) (fun _ => rfl) rfl ic_2 rfl <|
                q_fld_ow .n (.t rfl) fo_120_2 rfl <|
                q_ld1_ow .n (.t rfl) rfl (.inr rfl) (fun _ => rfl) rfl ic_2 rfl <|
                q_builda (us := [.int .i64 (at' e.mine.Airways x2.2.2).From, .int .i64 (at' e.mine.Airways x2.2.2).To]) .n (.cons (.t rfl) (.cons (.t rfl) .nil)) zv_128 ae_128 rfl rfl rfl <|
                q_fld_ow .n (.t rfl) fo_120_2 rfl <|
                q_ld1_ow .n (.t rfl) rfl (.inr rfl) (fun _ => rfl) rfl ic_2 rfl <|
                q_fld_ow .n (.t rfl) fo_120_1 rfl <|
                q_ld1_ow .n (.t rfl) rfl (.inr rfl) (fun _ => rfl) rfl ic_2 rfl <|
                q_builda (us := [.int .i64 (at' e.mine.Airways x2.2.2).To, .int .i64 (at' e.mine.Airways x2.2.2).From]) .n (.cons (.t rfl) (.cons (.t rfl) .nil)) zv_128 ae_128 rfl rfl rfl <|
                q_builda (us := [.int .i64 (at' e.mine.Airways x2.2.2).From, .int .i64 (at' e.mine.Airways x2.2.2).To, .int .i64 (at' e.mine.Airways x2.2.2).To, .int .i64 (at' e.mine.Airways x2.2.2).From]) .n (.cons (.t rfl) (.cons (.t rfl) .nil)) zv_129 ae_129 rfl rfl rfl <|
                q_move .n (.c rfl) rfl <|
                Lex.nil) ?_
            refine run_block ?_
            refine run_LOOP (m_impl_escape_times_b3 e c_ start rec1 k1 x1 rec2 k2 x2) _ _ _ rfl (fun (x3 : (List Int) × Bool × Int) => 0 ≤ x3.2.2 ∧ x3.2.2 ≤ 2 ∧ x3.1.length = x2.1.length ∧ SmI e.mine.Junctions x1.1 x3.1 x3.2.1) (fun x3 => 0 ≤ x3.2.2 ∧ x3.2.2 ≤ 2 ∧ x3.1.length = x2.1.length ∧ SmI e.mine.Junctions x1.1 x3.1 x3.2.1 ∧ 2 ≤ x3.2.2) (fun x3 => (2 - x3.2.2 : Int).toNat) (fun x3 => ⟨[(3, some (true, .op 200 0 0 0)), (4, some (true, .op 201 0 0 0)), (7, some (true, .os 203 x3.1.length)), (8, some (true, .bool x3.2.1)), (9, some (true, .int .i64 x2.2.2)), (10, some (true, .op 204 0 0 0)), (35, some (true, .sl 7 (e.mine.Airways.map gAirway.v))), (36, some (true, .int .i64 (e.mine.Airways.length : Int))), (37, some (true, .int .i64 x2.2.2)), (52, some (true, .st [.int .i64 (at' e.mine.Airways x2.2.2).From, .int .i64 (at' e.mine.Airways x2.2.2).To, .int .i64 (at' e.mine.Airways x2.2.2).To, .int .i64 (at' e.mine.Airways x2.2.2).From])), (53, some (true, .int .i64 x3.2.2))], [(200, some (.box 78 [.int .i64 e.mine.Junctions, .sl 7 (e.mine.Airways.map gAirway.v), .sl 1 (e.arrivals.map (V.int .i64)), .int .i64 e.blocked])), (201, some (.box 37 [.str c_.Id, .int .i64 c_.Junction, .int .i64 c_.Speed])), (203, some (.row 2 1 (x3.1.map (V.int .i64)))), (204, some (.box 120 [.str (at' e.mine.Airways x2.2.2).Id, .int .i64 (at' e.mine.Airways x2.2.2).From, .int .i64 (at' e.mine.Airways x2.2.2).To, .int .i64 (at' e.mine.Airways x2.2.2).Length, .int .i64 (at' e.mine.Airways x2.2.2).Section, .int .i64 (at' e.mine.Airways x2.2.2).Friction, .int .i64 (at' e.mine.Airways x2.2.2).Shock]))]⟩) (fun x3 => ⟨[(3, some (true, .op 200 0 0 0)), (4, some (true, .op 201 0 0 0)), (7, some (true, .os 203 x3.1.length)), (8, some (true, .bool x3.2.1)), (35, some (true, .sl 7 (e.mine.Airways.map gAirway.v))), (36, some (true, .int .i64 (e.mine.Airways.length : Int))), (37, some (true, .int .i64 x2.2.2))], [(200, some (.box 78 [.int .i64 e.mine.Junctions, .sl 7 (e.mine.Airways.map gAirway.v), .sl 1 (e.arrivals.map (V.int .i64)), .int .i64 e.blocked])), (201, some (.box 37 [.str c_.Id, .int .i64 c_.Junction, .int .i64 c_.Speed])), (203, some (.row 2 1 (x3.1.map (V.int .i64))))]⟩) ⟨by first | omega | assumption | (simp only [List.length_append, List.length_cons, List.length_nil, List.length_replicate, put_len] at * <;> omega) | (exact cw_start hp1 hp3 hp4) | (exact cw_pot hp1 hp3 hp4) | (exact SmI.refl (by assumption)) | (exact SmI.mu (by assumption) (by assumption)) | (exact And.left (by assumption)) | ((have hS : SmI e.mine.Junctions x1.1 x3.1 x3.2.1 := (by assumption); have hl := hS.1.1; have hw0 := hp1.at (i := x2.2.2) (by omega); unfold AirIn at hw0; have hw1 := at2 hw0 (q := x3.2.2) (by omega); omega)) | ((have hS : SmI e.mine.Junctions x1.1 x3.1 x3.2.1 := (by assumption); have hl := hS.1.1; exact times_put hp1 hp3.2 hS (by omega) (by omega) (by assumption))), by first | omega | assumption | (simp only [List.length_append, List.length_cons, List.length_nil, List.length_replicate, put_len] at * <;> omega) | (exact cw_start hp1 hp3 hp4) | (exact cw_pot hp1 hp3 hp4) | (exact SmI.refl (by assumption)) | (exact SmI.mu (by assumption) (by assumption)) | (exact And.left (by assumption)) | ((have hS : SmI e.mine.Junctions x1.1 x3.1 x3.2.1 := (by assumption); have hl := hS.1.1; have hw0 := hp1.at (i := x2.2.2) (by omega); unfold AirIn at hw0; have hw1 := at2 hw0 (q := x3.2.2) (by omega); omega)) | ((have hS : SmI e.mine.Junctions x1.1 x3.1 x3.2.1 := (by assumption); have hl := hS.1.1; exact times_put hp1 hp3.2 hS (by omega) (by omega) (by assumption))), by first | omega | assumption | (simp only [List.length_append, List.length_cons, List.length_nil, List.length_replicate, put_len] at * <;> omega) | (exact cw_start hp1 hp3 hp4) | (exact cw_pot hp1 hp3 hp4) | (exact SmI.refl (by assumption)) | (exact SmI.mu (by assumption) (by assumption)) | (exact And.left (by assumption)) | ((have hS : SmI e.mine.Junctions x1.1 x3.1 x3.2.1 := (by assumption); have hl := hS.1.1; have hw0 := hp1.at (i := x2.2.2) (by omega); unfold AirIn at hw0; have hw1 := at2 hw0 (q := x3.2.2) (by omega); omega)) | ((have hS : SmI e.mine.Junctions x1.1 x3.1 x3.2.1 := (by assumption); have hl := hS.1.1; exact times_put hp1 hp3.2 hS (by omega) (by omega) (by assumption))), by first | omega | assumption | (simp only [List.length_append, List.length_cons, List.length_nil, List.length_replicate, put_len] at * <;> omega) | (exact cw_start hp1 hp3 hp4) | (exact cw_pot hp1 hp3 hp4) | (exact SmI.refl (by assumption)) | (exact SmI.mu (by assumption) (by assumption)) | (exact And.left (by assumption)) | ((have hS : SmI e.mine.Junctions x1.1 x3.1 x3.2.1 := (by assumption); have hl := hS.1.1; have hw0 := hp1.at (i := x2.2.2) (by omega); unfold AirIn at hw0; have hw1 := at2 hw0 (q := x3.2.2) (by omega); omega)) | ((have hS : SmI e.mine.Junctions x1.1 x3.1 x3.2.1 := (by assumption); have hl := hS.1.1; exact times_put hp1 hp3.2 hS (by omega) (by omega) (by assumption)))⟩ (by first | omega | assumption | (simp only [List.length_append, List.length_cons, List.length_nil, List.length_replicate, put_len] at * <;> omega) | (exact cw_start hp1 hp3 hp4) | (exact cw_pot hp1 hp3 hp4) | (exact SmI.refl (by assumption)) | (exact SmI.mu (by assumption) (by assumption)) | (exact And.left (by assumption)) | ((have hS : SmI e.mine.Junctions x1.1 x3.1 x3.2.1 := (by assumption); have hl := hS.1.1; have hw0 := hp1.at (i := x2.2.2) (by omega); unfold AirIn at hw0; have hw1 := at2 hw0 (q := x3.2.2) (by omega); omega)) | ((have hS : SmI e.mine.Junctions x1.1 x3.1 x3.2.1 := (by assumption); have hl := hS.1.1; exact times_put hp1 hp3.2 hS (by omega) (by omega) (by assumption)))) (sub_of [] ⟨rfl, rfl, rfl, rfl, rfl, rfl, rfl, rfl, rfl, rfl, rfl, trivial⟩ ⟨rfl, rfl, rfl, rfl, trivial⟩ rfl) ?_ ?_
            · intro x3 i14
              obtain ⟨e15, e16, e17, e18, e19⟩ := i14
              try dsimp only at *
              refine run_endB ?_
              refine run_region (q_add .n (.t rfl) (.c rfl) (fun _ => by first | omega | assumption | (simp only [List.length_append, List.length_cons, List.length_nil, List.length_replicate, put_len] at * <;> omega) | (exact cw_start hp1 hp3 hp4) | (exact cw_pot hp1 hp3 hp4) | (exact SmI.refl (by assumption)) | (exact SmI.mu (by assumption) (by assumption)) | (exact And.left (by assumption)) | ((have hS : SmI e.mine.Junctions x1.1 x3.1 x3.2.1 := (by assumption); have hl := hS.1.1; have hw0 := hp1.at (i := x2.2.2) (by omega); unfold AirIn at hw0; have hw1 := at2 hw0 (q := x3.2.2) (by omega); omega)) | ((have hS : SmI e.mine.Junctions x1.1 x3.1 x3.2.1 := (by assumption); have hl := hS.1.1; exact times_put hp1 hp3.2 hS (by omega) (by omega) (by assumption)))) rfl <|
                  q_move .n (.t rfl) rfl <|
                  Lex.nil) ?_
              exact run_again (x3.1, x3.2.1, x2.2.2 + 1) ⟨by first | omega | assumption | (simp only [List.length_append, List.length_cons, List.length_nil, List.length_replicate, put_len] at * <;> omega) | (exact cw_start hp1 hp3 hp4) | (exact cw_pot hp1 hp3 hp4) | (exact SmI.refl (by assumption)) | (exact SmI.mu (by assumption) (by assumption)) | (exact And.left (by assumption)) | ((have hS : SmI e.mine.Junctions x1.1 x3.1 x3.2.1 := (by assumption); have hl := hS.1.1; have hw0 := hp1.at (i := x2.2.2) (by omega); unfold AirIn at hw0; have hw1 := at2 hw0 (q := x3.2.2) (by omega); omega)) | ((have hS : SmI e.mine.Junctions x1.1 x3.1 x3.2.1 := (by assumption); have hl := hS.1.1; exact times_put hp1 hp3.2 hS (by omega) (by omega) (by assumption))), by first | omega | assumption | (simp only [List.length_append, List.length_cons, List.length_nil, List.length_replicate, put_len] at * <;> omega) | (exact cw_start hp1 hp3 hp4) | (exact cw_pot hp1 hp3 hp4) | (exact SmI.refl (by assumption)) | (exact SmI.mu (by assumption) (by assumption)) | (exact And.left (by assumption)) | ((have hS : SmI e.mine.Junctions x1.1 x3.1 x3.2.1 := (by assumption); have hl := hS.1.1; have hw0 := hp1.at (i := x2.2.2) (by omega); unfold AirIn at hw0; have hw1 := at2 hw0 (q := x3.2.2) (by omega); omega)) | ((have hS : SmI e.mine.Junctions x1.1 x3.1 x3.2.1 := (by assumption); have hl := hS.1.1; exact times_put hp1 hp3.2 hS (by omega) (by omega) (by assumption))), by first | omega | assumption | (simp only [List.length_append, List.length_cons, List.length_nil, List.length_replicate, put_len] at * <;> omega) | (exact cw_start hp1 hp3 hp4) | (exact cw_pot hp1 hp3 hp4) | (exact SmI.refl (by assumption)) | (exact SmI.mu (by assumption) (by assumption)) | (exact And.left (by assumption)) | ((have hS : SmI e.mine.Junctions x1.1 x3.1 x3.2.1 := (by assumption); have hl := hS.1.1; have hw0 := hp1.at (i := x2.2.2) (by omega); unfold AirIn at hw0; have hw1 := at2 hw0 (q := x3.2.2) (by omega); omega)) | ((have hS : SmI e.mine.Junctions x1.1 x3.1 x3.2.1 := (by assumption); have hl := hS.1.1; exact times_put hp1 hp3.2 hS (by omega) (by omega) (by assumption)))⟩ (by first | omega | assumption | (simp only [List.length_append, List.length_cons, List.length_nil, List.length_replicate, put_len] at * <;> omega) | (exact cw_start hp1 hp3 hp4) | (exact cw_pot hp1 hp3 hp4) | (exact SmI.refl (by assumption)) | (exact SmI.mu (by assumption) (by assumption)) | (exact And.left (by assumption)) | ((have hS : SmI e.mine.Junctions x1.1 x3.1 x3.2.1 := (by assumption); have hl := hS.1.1; have hw0 := hp1.at (i := x2.2.2) (by omega); unfold AirIn at hw0; have hw1 := at2 hw0 (q := x3.2.2) (by omega); omega)) | ((have hS : SmI e.mine.Junctions x1.1 x3.1 x3.2.1 := (by assumption); have hl := hS.1.1; exact times_put hp1 hp3.2 hS (by omega) (by omega) (by assumption)))) (sub_of [] ⟨rfl, rfl, rfl, rfl, rfl, rfl, rfl, trivial⟩ ⟨rfl, rfl, rfl, trivial⟩ rfl)
            · intro rec3 k3 hk10 x3 i11
              obtain ⟨e20, e21, e22, e23⟩ := i11
              try dsimp only at *
              refine run_seq ?_
              refine run_region (q_int .n (.t rfl) (.c rfl) rfl rfl <|
                  Lex.nil) ?_
              refine run_seq ?_
              refine run_cond (.t rfl) rfl (fun h12 => ?_) (fun h12 => ?_)
              · try simp only [Bool.and_eq_true, Bool.or_eq_true, Bool.not_eq_true', Bool.and_eq_false_iff, Bool.or_eq_false_iff, Bool.not_eq_false', decide_eq_true_eq, decide_eq_false_iff_not, beq_iff_eq, bne_iff_ne, beq_eq_false_iff_ne, bne_eq_false_iff_eq, Bool.true_and, ne_eq, Decidable.not_not, Int.not_lt, Int.not_le, Nat.not_lt, Nat.not_le, strB_nil, strB_nil', strB_nnil, strB_nnil'] at h12
                refine run_skip ?_
                refine run_seq ?_
                refine run_block ?_
                refine run_seq ?_
                refine run_region (q_indexa [.int .i64 (at' ([(at' e.mine.Airways x2.2.2).From, (at' e.mine.Airways x2.2.2).To] : List Int) x3.2.2), .int .i64 (at' ([(at' e.mine.Airways x2.2.2).To, (at' e.mine.Airways x2.2.2).From] : List Int) x3.2.2)] .n (.t rfl) (.t rfl) ae_129 ag_128 rfl (fun _ => by first | omega | assumption | (simp only [List.length_append, List.length_cons, List.length_nil, List.length_replicate, put_len] at * <;> omega) | (exact cw_start hp1 hp3 hp4) | (exact cw_pot hp1 hp3 hp4) | (exact SmI.refl (by assumption)) | (exact SmI.mu (by assumption) (by assumption)) | (exact And.left (by assumption)) | ((have hS : SmI e.mine.Junctions x1.1 x3.1 x3.2.1 := (by assumption); have hl := hS.1.1; have hw0 := hp1.at (i := x2.2.2) (by omega); unfold AirIn at hw0; have hw1 := at2 hw0 (q := x3.2.2) (by omega); omega)) | ((have hS : SmI e.mine.Junctions x1.1 x3.1 x3.2.1 := (by assumption); have hl := hS.1.1; exact times_put hp1 hp3.2 hS (by omega) (by omega) (by assumption)))) (fun _ => by have h : x3.2.2 = 0 ∨ x3.2.2 = 1 := (by first | omega | (simp only [List.length_append, List.length_cons, List.length_nil, List.length_replicate, put_len] at *; omega)); rcases h with h | h <;> (rw [h]; rfl)) rfl <|
                    q_alloc (l := 205) .n rfl zv_128 rfl rfl <|
                    q_st_boxm [.int .i64 (at' ([(at' e.mine.Airways x2.2.2).From, (at' e.mine.Airways x2.2.2).To] : List Int) x3.2.2), .int .i64 (at' ([(at' e.mine.Airways x2.2.2).To, (at' e.mine.Airways x2.2.2).From] : List Int) x3.2.2)] .n rfl (.t rfl) (.t rfl) rfl ts_128 rfl rfl <|
                    Lex.nil) ?_
                refine run_seq ?_
                refine run_draw fmo (q_move .n (.t rfl) rfl <|
                    q_idxa_ow .n (.t rfl) (.c rfl) ae_128 (by decide) 0 rfl rfl <|
                    q_ld1_ow .n (.t rfl) rfl (.inr rfl) (fun _ => rfl) rfl ic_2 rfl <|
                    q_idx_ow .n (.t rfl) (.t rfl) sl_25 (fun _ => by first | omega | assumption | (simp only [List.length_append, List.length_cons, List.length_nil, List.length_replicate, put_len] at * <;> omega) | (exact cw_start hp1 hp3 hp4) | (exact cw_pot hp1 hp3 hp4) | (exact SmI.refl (by assumption)) | (exact SmI.mu (by assumption) (by assumption)) | (exact And.left (by assumption)) | ((have hS : SmI e.mine.Junctions x1.1 x3.1 x3.2.1 := (by assumption); have hl := hS.1.1; have hw0 := hp1.at (i := x2.2.2) (by omega); unfold AirIn at hw0; have hw1 := at2 hw0 (q := x3.2.2) (by omega); omega)) | ((have hS : SmI e.mine.Junctions x1.1 x3.1 x3.2.1 := (by assumption); have hl := hS.1.1; exact times_put hp1 hp3.2 hS (by omega) (by omega) (by assumption)))) rfl <|
                    q_ld1_row .n (.t rfl) rfl (fun _ => by first | omega | assumption | (simp only [List.length_append, List.length_cons, List.length_nil, List.length_replicate, put_len] at * <;> omega) | (exact cw_start hp1 hp3 hp4) | (exact cw_pot hp1 hp3 hp4) | (exact SmI.refl (by assumption)) | (exact SmI.mu (by assumption) (by assumption)) | (exact And.left (by assumption)) | ((have hS : SmI e.mine.Junctions x1.1 x3.1 x3.2.1 := (by assumption); have hl := hS.1.1; have hw0 := hp1.at (i := x2.2.2) (by omega); unfold AirIn at hw0; have hw1 := at2 hw0 (q := x3.2.2) (by omega); omega)) | ((have hS : SmI e.mine.Junctions x1.1 x3.1 x3.2.1 := (by assumption); have hl := hS.1.1; exact times_put hp1 hp3.2 hS (by omega) (by omega) (by assumption)))) rfl rfl rfl ic_2 rfl <|
                    q_ldN_ow .n (.t rfl) rfl (.inr rfl) ag_120 (fun _ => rfl) rfl rfl <|
                    q_fld_ow .n (.t rfl) fo_37_2 rfl <|
                    q_ld1_ow .n (.t rfl) rfl (.inr rfl) (fun _ => rfl) rfl ic_2 rfl <|
                    q_call0 (full := false) .n .f en_85 (.cons (.t rfl) (.cons (.t rfl) .nil)) (.cons (.sts rfl) (.cons (.b (.a (.same rfl))) .nil)) (fun hg => c_impl_Airway_walkTime (at' e.mine.Airways x2.2.2) c_.Speed (by first | omega | assumption | (simp only [List.length_append, List.length_cons, List.length_nil, List.length_replicate, put_len] at * <;> omega) | (exact cw_start hp1 hp3 hp4) | (exact cw_pot hp1 hp3 hp4) | (exact SmI.refl (by assumption)) | (exact SmI.mu (by assumption) (by assumption)) | (exact And.left (by assumption)) | ((have hS : SmI e.mine.Junctions x1.1 x3.1 x3.2.1 := (by assumption); have hl := hS.1.1; have hw0 := hp1.at (i := x2.2.2) (by omega); unfold AirIn at hw0; have hw1 := at2 hw0 (q := x3.2.2) (by omega); omega)) | ((have hS : SmI e.mine.Junctions x1.1 x3.1 x3.2.1 := (by assumption); have hl := hS.1.1; exact times_put hp1 hp3.2 hS (by omega) (by omega) (by assumption))))) rfl (fun h => Bool.noConfusion h) rfl <|
                    q_int .n (.t rfl) (.t rfl) rfl rfl <|
                    q_assign .n (.t rfl) rfl <|
                    Lex.nil) (by kernel_rfl) ?_
                refine run_seq ?_
                refine run_region (q_move .n (.t rfl) rfl <|
                    q_idxa_ow .n (.t rfl) (.c rfl) ae_128 (by decide) 1 rfl rfl <|
                    q_ld1_ow .n (.t rfl) rfl (.inr rfl) (fun _ => rfl) rfl ic_2 rfl <|
                    q_idx_ow .n (.t rfl) (.t rfl) sl_25 (fun _ => by first | omega | assumption | (simp only [List.length_append, List.length_cons, List.length_nil, List.length_replicate, put_len] at * <;> omega) | (exact cw_start hp1 hp3 hp4) | (exact cw_pot hp1 hp3 hp4) | (exact SmI.refl (by assumption)) | (exact SmI.mu (by assumption) (by assumption)) | (exact And.left (by assumption)) | ((have hS : SmI e.mine.Junctions x1.1 x3.1 x3.2.1 := (by assumption); have hl := hS.1.1; have hw0 := hp1.at (i := x2.2.2) (by omega); unfold AirIn at hw0; have hw1 := at2 hw0 (q := x3.2.2) (by omega); omega)) | ((have hS : SmI e.mine.Junctions x1.1 x3.1 x3.2.1 := (by assumption); have hl := hS.1.1; exact times_put hp1 hp3.2 hS (by omega) (by omega) (by assumption)))) rfl <|
                    q_ld1_row .n (.t rfl) rfl (fun _ => by first | omega | assumption | (simp only [List.length_append, List.length_cons, List.length_nil, List.length_replicate, put_len] at * <;> omega) | (exact cw_start hp1 hp3 hp4) | (exact cw_pot hp1 hp3 hp4) | (exact SmI.refl (by assumption)) | (exact SmI.mu (by assumption) (by assumption)) | (exact And.left (by assumption)) | ((have hS : SmI e.mine.Junctions x1.1 x3.1 x3.2.1 := (by assumption); have hl := hS.1.1; have hw0 := hp1.at (i := x2.2.2) (by omega); unfold AirIn at hw0; have hw1 := at2 hw0 (q := x3.2.2) (by omega); omega)) | ((have hS : SmI e.mine.Junctions x1.1 x3.1 x3.2.1 := (by assumption); have hl := hS.1.1; exact times_put hp1 hp3.2 hS (by omega) (by omega) (by assumption)))) rfl rfl rfl ic_2 rfl <|
                    q_int .n (.t rfl) (.c rfl) rfl rfl <|
                    q_move .n (.t rfl) rfl <|
                    q_move (.f rfl rfl) (.t rfl) rfl <|
                    q_move (.f rfl rfl) (.t rfl) rfl <|
                    q_idxa_ow (.f rfl rfl) (.t rfl) (.c rfl) ae_128 (by decide) 1 rfl rfl <|
                    q_ld1_ow (.f rfl rfl) (.u rfl id) rfl (.inr rfl) (fun _ => rfl) rfl ic_2 rfl <|
                    q_idx_ow (.f rfl rfl) (.u rfl id) (.u rfl id) sl_25 (fun hg => by simp only [Bool.and_eq_true, Bool.or_eq_true, Bool.not_eq_true', Bool.and_eq_false_iff, Bool.or_eq_false_iff, Bool.not_eq_false', decide_eq_true_eq, decide_eq_false_iff_not, beq_iff_eq, bne_iff_ne, beq_eq_false_iff_ne, bne_eq_false_iff_eq, Bool.true_and, ne_eq, Decidable.not_not, Int.not_lt, Int.not_le, Nat.not_lt, Nat.not_le, strB_nil, strB_nil', strB_nnil, strB_nnil'] at hg; first | omega | assumption | (simp only [List.length_append, List.length_cons, List.length_nil, List.length_replicate, put_len] at * <;> omega) | (exact cw_start hp1 hp3 hp4) | (exact cw_pot hp1 hp3 hp4) | (exact SmI.refl (by assumption)) | (exact SmI.mu (by assumption) (by assumption)) | (exact And.left (by assumption)) | ((have hS : SmI e.mine.Junctions x1.1 x3.1 x3.2.1 := (by assumption); have hl := hS.1.1; have hw0 := hp1.at (i := x2.2.2) (by omega); unfold AirIn at hw0; have hw1 := at2 hw0 (q := x3.2.2) (by omega); omega)) | ((have hS : SmI e.mine.Junctions x1.1 x3.1 x3.2.1 := (by assumption); have hl := hS.1.1; exact times_put hp1 hp3.2 hS (by omega) (by omega) (by assumption)))) rfl <|
                    q_ld1_row (.f rfl rfl) (.u rfl id) rfl (fun hg => by simp only [Bool.and_eq_true, Bool.or_eq_true, Bool.not_eq_true', Bool.and_eq_false_iff, Bool.or_eq_false_iff, Bool.not_eq_false', decide_eq_true_eq, decide_eq_false_iff_not, beq_iff_eq, bne_iff_ne, beq_eq_false_iff_ne, bne_eq_false_iff_eq, Bool.true_and, ne_eq, Decidable.not_not, Int.not_lt, Int.not_le, Nat.not_lt, Nat.not_le, strB_nil, strB_nil', strB_nnil, strB_nnil'] at hg; first | omega | assumption | (simp only [List.length_append, List.length_cons, List.length_nil, List.length_replicate, put_len] at * <;> omega) | (exact cw_start hp1 hp3 hp4) | (exact cw_pot hp1 hp3 hp4) | (exact SmI.refl (by assumption)) | (exact SmI.mu (by assumption) (by assumption)) | (exact And.left (by assumption)) | ((have hS : SmI e.mine.Junctions x1.1 x3.1 x3.2.1 := (by assumption); have hl := hS.1.1; have hw0 := hp1.at (i := x2.2.2) (by omega); unfold AirIn at hw0; have hw1 := at2 hw0 (q := x3.2.2) (by omega); omega)) | ((have hS : SmI e.mine.Junctions x1.1 x3.1 x3.2.1 := (by assumption); have hl := hS.1.1; exact times_put hp1 hp3.2 hS (by omega) (by omega) (by assumption)))) rfl rfl rfl ic_2 rfl <|
                    q_int (.f rfl rfl) (.u rfl id) (.u rfl id) rfl rfl <|
                    q_or .n (.t rfl) (.u rfl id) rfl <|
                    q_assign .n (.t rfl) rfl <|
                    Lex.nil) ?_
                refine run_seq ?_
                refine run_region (q_move .n (.t rfl) rfl <|
                    q_fld_ow .n (.t rfl) fo_78_2 rfl <|
                    q_ld1_ow .n (.t rfl) rfl (.inr rfl) (fun _ => rfl) rfl ic_2 rfl <|
                    q_int .n (.t rfl) (.t rfl) rfl rfl <|
                    q_move .n (.t rfl) rfl <|
                    q_move (.t rfl rfl) (.t rfl) rfl <|
                    q_idxa_ow (.t rfl rfl) (.t rfl) (.c rfl) ae_128 (by decide) 0 rfl rfl <|
                    q_ld1_ow (.t rfl rfl) (.u rfl id) rfl (.inr rfl) (fun _ => rfl) rfl ic_2 rfl <|
                    q_idx_ow (.t rfl rfl) (.u rfl id) (.u rfl id) sl_25 (fun hg => by simp only [Bool.and_eq_true, Bool.or_eq_true, Bool.not_eq_true', Bool.and_eq_false_iff, Bool.or_eq_false_iff, Bool.not_eq_false', decide_eq_true_eq, decide_eq_false_iff_not, beq_iff_eq, bne_iff_ne, beq_eq_false_iff_ne, bne_eq_false_iff_eq, Bool.true_and, ne_eq, Decidable.not_not, Int.not_lt, Int.not_le, Nat.not_lt, Nat.not_le, strB_nil, strB_nil', strB_nnil, strB_nnil'] at hg; first | omega | assumption | (simp only [List.length_append, List.length_cons, List.length_nil, List.length_replicate, put_len] at * <;> omega) | (exact cw_start hp1 hp3 hp4) | (exact cw_pot hp1 hp3 hp4) | (exact SmI.refl (by assumption)) | (exact SmI.mu (by assumption) (by assumption)) | (exact And.left (by assumption)) | ((have hS : SmI e.mine.Junctions x1.1 x3.1 x3.2.1 := (by assumption); have hl := hS.1.1; have hw0 := hp1.at (i := x2.2.2) (by omega); unfold AirIn at hw0; have hw1 := at2 hw0 (q := x3.2.2) (by omega); omega)) | ((have hS : SmI e.mine.Junctions x1.1 x3.1 x3.2.1 := (by assumption); have hl := hS.1.1; exact times_put hp1 hp3.2 hS (by omega) (by omega) (by assumption)))) rfl <|
                    q_ld1_row (.t rfl rfl) (.u rfl id) rfl (fun hg => by simp only [Bool.and_eq_true, Bool.or_eq_true, Bool.not_eq_true', Bool.and_eq_false_iff, Bool.or_eq_false_iff, Bool.not_eq_false', decide_eq_true_eq, decide_eq_false_iff_not, beq_iff_eq, bne_iff_ne, beq_eq_false_iff_ne, bne_eq_false_iff_eq, Bool.true_and, ne_eq, Decidable.not_not, Int.not_lt, Int.not_le, Nat.not_lt, Nat.not_le, strB_nil, strB_nil', strB_nnil, strB_nnil'] at hg; first | omega | assumption | (simp only [List.length_append, List.length_cons, List.length_nil, List.length_replicate, put_len] at * <;> omega) | (exact cw_start hp1 hp3 hp4) | (exact cw_pot hp1 hp3 hp4) | (exact SmI.refl (by assumption)) | (exact SmI.mu (by assumption) (by assumption)) | (exact And.left (by assumption)) | ((have hS : SmI e.mine.Junctions x1.1 x3.1 x3.2.1 := (by assumption); have hl := hS.1.1; have hw0 := hp1.at (i := x2.2.2) (by omega); unfold AirIn at hw0; have hw1 := at2 hw0 (q := x3.2.2) (by omega); omega)) | ((have hS : SmI e.mine.Junctions x1.1 x3.1 x3.2.1 := (by assumption); have hl := hS.1.1; exact times_put hp1 hp3.2 hS (by omega) (by omega) (by assumption)))) rfl rfl rfl ic_2 rfl <|
                    q_int (.t rfl rfl) (.u rfl id) (.c rfl) rfl rfl <|
                    q_and .n (.t rfl) (.u rfl id) rfl <|
                    q_move .n (.t rfl) rfl <|
                    q_move (.t rfl rfl) (.t rfl) rfl <|
                    q_and .n (.t rfl) (.u rfl id) rfl <|
                    q_move .n (.t rfl) rfl <|
                    q_ldN_ow (.t rfl rfl) (.t rfl) rfl (.inr rfl) ag_78 (fun _ => rfl) rfl rfl <|
                    q_idxa_ow (.t rfl rfl) (.t rfl) (.c rfl) ae_128 (by decide) 1 rfl rfl <|
                    q_ld1_ow (.t rfl rfl) (.u rfl id) rfl (.inr rfl) (fun _ => rfl) rfl ic_2 rfl <|
                    q_move (.t rfl rfl) (.t rfl) rfl <|
                    q_call0 (full := false) (.t rfl rfl) .f en_84 (.cons (.u rfl id) (.cons (.u rfl id) (.cons (.u rfl id) .nil))) (.cons (.sts rfl) (.cons (.b (.a (.same rfl))) (.cons (.b (.a (.same rfl))) .nil))) (fun hg => c_impl_escape_mayBe e (at' ([(at' e.mine.Airways x2.2.2).To, (at' e.mine.Airways x2.2.2).From] : List Int) x3.2.2) (IntKind.wrap .i64 ((at' x3.1 (at' ([(at' e.mine.Airways x2.2.2).From, (at' e.mine.Airways x2.2.2).To] : List Int) x3.2.2)) + (m_impl_Airway_walkTime (at' e.mine.Airways x2.2.2) c_.Speed))) (by simp only [Bool.and_eq_true, Bool.or_eq_true, Bool.not_eq_true', Bool.and_eq_false_iff, Bool.or_eq_false_iff, Bool.not_eq_false', decide_eq_true_eq, decide_eq_false_iff_not, beq_iff_eq, bne_iff_ne, beq_eq_false_iff_ne, bne_eq_false_iff_eq, Bool.true_and, ne_eq, Decidable.not_not, Int.not_lt, Int.not_le, Nat.not_lt, Nat.not_le, strB_nil, strB_nil', strB_nnil, strB_nnil'] at hg; first | omega | assumption | (simp only [List.length_append, List.length_cons, List.length_nil, List.length_replicate, put_len] at * <;> omega) | (exact cw_start hp1 hp3 hp4) | (exact cw_pot hp1 hp3 hp4) | (exact SmI.refl (by assumption)) | (exact SmI.mu (by assumption) (by assumption)) | (exact And.left (by assumption)) | ((have hS : SmI e.mine.Junctions x1.1 x3.1 x3.2.1 := (by assumption); have hl := hS.1.1; have hw0 := hp1.at (i := x2.2.2) (by omega); unfold AirIn at hw0; have hw1 := at2 hw0 (q := x3.2.2) (by omega); omega)) | ((have hS : SmI e.mine.Junctions x1.1 x3.1 x3.2.1 := (by assumption); have hl := hS.1.1; exact times_put hp1 hp3.2 hS (by omega) (by omega) (by assumption))))) rfl (fun h => Bool.noConfusion h) rfl <|
                    q_and .n (.t rfl) (.u rfl id) rfl <|
                    Lex.nil) ?_
                refine run_cond (.t rfl) rfl (fun h13 => ?_) (fun h13 => ?_)
                · try simp only [Bool.and_eq_true, Bool.or_eq_true, Bool.not_eq_true', Bool.and_eq_false_iff, Bool.or_eq_false_iff, Bool.not_eq_false', decide_eq_true_eq, decide_eq_false_iff_not, beq_iff_eq, bne_iff_ne, beq_eq_false_iff_ne, bne_eq_false_iff_eq, Bool.true_and, ne_eq, Decidable.not_not, Int.not_lt, Int.not_le, Nat.not_lt, Nat.not_le, strB_nil, strB_nil', strB_nnil, strB_nnil'] at h13
                  refine run_region (q_move .n (.t rfl) rfl <|
                      q_idxa_ow .n (.t rfl) (.c rfl) ae_128 (by decide) 1 rfl rfl <|
                      q_ld1_ow .n (.t rfl) rfl (.inr rfl) (fun _ => rfl) rfl ic_2 rfl <|
                      q_move .n (.t rfl) rfl <|
                      q_idx_ow .n (.t rfl) (.t rfl) sl_25 (fun _ => by first | omega | assumption | (simp only [List.length_append, List.length_cons, List.length_nil, List.length_replicate, put_len] at * <;> omega) | (exact cw_start hp1 hp3 hp4) | (exact cw_pot hp1 hp3 hp4) | (exact SmI.refl (by assumption)) | (exact SmI.mu (by assumption) (by assumption)) | (exact And.left (by assumption)) | ((have hS : SmI e.mine.Junctions x1.1 x3.1 x3.2.1 := (by assumption); have hl := hS.1.1; have hw0 := hp1.at (i := x2.2.2) (by omega); unfold AirIn at hw0; have hw1 := at2 hw0 (q := x3.2.2) (by omega); omega)) | ((have hS : SmI e.mine.Junctions x1.1 x3.1 x3.2.1 := (by assumption); have hl := hS.1.1; exact times_put hp1 hp3.2 hS (by omega) (by omega) (by assumption)))) rfl <|
                      q_st_rowm (IntKind.wrap .i64 ((at' x3.1 (at' ([(at' e.mine.Airways x2.2.2).From, (at' e.mine.Airways x2.2.2).To] : List Int) x3.2.2)) + (m_impl_Airway_walkTime (at' e.mine.Airways x2.2.2) c_.Speed))) .n rfl (.t rfl) (.t rfl) rfl ts_2 (by first | omega | assumption | (simp only [List.length_append, List.length_cons, List.length_nil, List.length_replicate, put_len] at * <;> omega) | (exact cw_start hp1 hp3 hp4) | (exact cw_pot hp1 hp3 hp4) | (exact SmI.refl (by assumption)) | (exact SmI.mu (by assumption) (by assumption)) | (exact And.left (by assumption)) | ((have hS : SmI e.mine.Junctions x1.1 x3.1 x3.2.1 := (by assumption); have hl := hS.1.1; have hw0 := hp1.at (i := x2.2.2) (by omega); unfold AirIn at hw0; have hw1 := at2 hw0 (q := x3.2.2) (by omega); omega)) | ((have hS : SmI e.mine.Junctions x1.1 x3.1 x3.2.1 := (by assumption); have hl := hS.1.1; exact times_put hp1 hp3.2 hS (by omega) (by omega) (by assumption)))) rfl rfl <|
                      q_assign .n (.c rfl) rfl <|
                      Lex.nil) ?_
                  refine run_endB ?_
                  refine run_region (q_add .n (.t rfl) (.c rfl) (fun _ => by first | omega | assumption | (simp only [List.length_append, List.length_cons, List.length_nil, List.length_replicate, put_len] at * <;> omega) | (exact cw_start hp1 hp3 hp4) | (exact cw_pot hp1 hp3 hp4) | (exact SmI.refl (by assumption)) | (exact SmI.mu (by assumption) (by assumption)) | (exact And.left (by assumption)) | ((have hS : SmI e.mine.Junctions x1.1 x3.1 x3.2.1 := (by assumption); have hl := hS.1.1; have hw0 := hp1.at (i := x2.2.2) (by omega); unfold AirIn at hw0; have hw1 := at2 hw0 (q := x3.2.2) (by omega); omega)) | ((have hS : SmI e.mine.Junctions x1.1 x3.1 x3.2.1 := (by assumption); have hl := hS.1.1; exact times_put hp1 hp3.2 hS (by omega) (by omega) (by assumption)))) rfl <|
                      q_move .n (.t rfl) rfl <|
                      Lex.nil) ?_
                  exact run_again (put' x3.1 (at' ([(at' e.mine.Airways x2.2.2).To, (at' e.mine.Airways x2.2.2).From] : List Int) x3.2.2) (IntKind.wrap .i64 ((at' x3.1 (at' ([(at' e.mine.Airways x2.2.2).From, (at' e.mine.Airways x2.2.2).To] : List Int) x3.2.2)) + (m_impl_Airway_walkTime (at' e.mine.Airways x2.2.2) c_.Speed))), true, x3.2.2 + 1) ⟨by first | omega | assumption | (simp only [List.length_append, List.length_cons, List.length_nil, List.length_replicate, put_len] at * <;> omega) | (exact cw_start hp1 hp3 hp4) | (exact cw_pot hp1 hp3 hp4) | (exact SmI.refl (by assumption)) | (exact SmI.mu (by assumption) (by assumption)) | (exact And.left (by assumption)) | ((have hS : SmI e.mine.Junctions x1.1 x3.1 x3.2.1 := (by assumption); have hl := hS.1.1; have hw0 := hp1.at (i := x2.2.2) (by omega); unfold AirIn at hw0; have hw1 := at2 hw0 (q := x3.2.2) (by omega); omega)) | ((have hS : SmI e.mine.Junctions x1.1 x3.1 x3.2.1 := (by assumption); have hl := hS.1.1; exact times_put hp1 hp3.2 hS (by omega) (by omega) (by assumption))), by first | omega | assumption | (simp only [List.length_append, List.length_cons, List.length_nil, List.length_replicate, put_len] at * <;> omega) | (exact cw_start hp1 hp3 hp4) | (exact cw_pot hp1 hp3 hp4) | (exact SmI.refl (by assumption)) | (exact SmI.mu (by assumption) (by assumption)) | (exact And.left (by assumption)) | ((have hS : SmI e.mine.Junctions x1.1 x3.1 x3.2.1 := (by assumption); have hl := hS.1.1; have hw0 := hp1.at (i := x2.2.2) (by omega); unfold AirIn at hw0; have hw1 := at2 hw0 (q := x3.2.2) (by omega); omega)) | ((have hS : SmI e.mine.Junctions x1.1 x3.1 x3.2.1 := (by assumption); have hl := hS.1.1; exact times_put hp1 hp3.2 hS (by omega) (by omega) (by assumption))), by first | omega | assumption | (simp only [List.length_append, List.length_cons, List.length_nil, List.length_replicate, put_len] at * <;> omega) | (exact cw_start hp1 hp3 hp4) | (exact cw_pot hp1 hp3 hp4) | (exact SmI.refl (by assumption)) | (exact SmI.mu (by assumption) (by assumption)) | (exact And.left (by assumption)) | ((have hS : SmI e.mine.Junctions x1.1 x3.1 x3.2.1 := (by assumption); have hl := hS.1.1; have hw0 := hp1.at (i := x2.2.2) (by omega); unfold AirIn at hw0; have hw1 := at2 hw0 (q := x3.2.2) (by omega); omega)) | ((have hS : SmI e.mine.Junctions x1.1 x3.1 x3.2.1 := (by assumption); have hl := hS.1.1; exact times_put hp1 hp3.2 hS (by omega) (by omega) (by assumption))), by first | omega | assumption | (simp only [List.length_append, List.length_cons, List.length_nil, List.length_replicate, put_len] at * <;> omega) | (exact cw_start hp1 hp3 hp4) | (exact cw_pot hp1 hp3 hp4) | (exact SmI.refl (by assumption)) | (exact SmI.mu (by assumption) (by assumption)) | (exact And.left (by assumption)) | ((have hS : SmI e.mine.Junctions x1.1 x3.1 x3.2.1 := (by assumption); have hl := hS.1.1; have hw0 := hp1.at (i := x2.2.2) (by omega); unfold AirIn at hw0; have hw1 := at2 hw0 (q := x3.2.2) (by omega); omega)) | ((have hS : SmI e.mine.Junctions x1.1 x3.1 x3.2.1 := (by assumption); have hl := hS.1.1; exact times_put hp1 hp3.2 hS (by omega) (by omega) (by assumption)))⟩ (by first | omega | assumption | (simp only [List.length_append, List.length_cons, List.length_nil, List.length_replicate, put_len] at * <;> omega) | (exact cw_start hp1 hp3 hp4) | (exact cw_pot hp1 hp3 hp4) | (exact SmI.refl (by assumption)) | (exact SmI.mu (by assumption) (by assumption)) | (exact And.left (by assumption)) | ((have hS : SmI e.mine.Junctions x1.1 x3.1 x3.2.1 := (by assumption); have hl := hS.1.1; have hw0 := hp1.at (i := x2.2.2) (by omega); unfold AirIn at hw0; have hw1 := at2 hw0 (q := x3.2.2) (by omega); omega)) | ((have hS : SmI e.mine.Junctions x1.1 x3.1 x3.2.1 := (by assumption); have hl := hS.1.1; exact times_put hp1 hp3.2 hS (by omega) (by omega) (by assumption)))) (sub_of [] ⟨rfl, rfl, os_len rfl (by first | (simp only [put_len]; done) | (first | omega | assumption | (simp only [List.length_append, List.length_cons, List.length_nil, List.length_replicate, put_len] at * <;> omega) | (exact cw_start hp1 hp3 hp4) | (exact cw_pot hp1 hp3 hp4) | (exact SmI.refl (by assumption)) | (exact SmI.mu (by assumption) (by assumption)) | (exact And.left (by assumption)) | ((have hS : SmI e.mine.Junctions x1.1 x3.1 x3.2.1 := (by assumption); have hl := hS.1.1; have hw0 := hp1.at (i := x2.2.2) (by omega); unfold AirIn at hw0; have hw1 := at2 hw0 (q := x3.2.2) (by omega); omega)) | ((have hS : SmI e.mine.Junctions x1.1 x3.1 x3.2.1 := (by assumption); have hl := hS.1.1; exact times_put hp1 hp3.2 hS (by omega) (by omega) (by assumption))))), rfl, rfl, rfl, rfl, rfl, rfl, rfl, rfl, trivial⟩ ⟨rfl, rfl, rfl, rfl, trivial⟩ rfl)
                · try simp only [Bool.and_eq_true, Bool.or_eq_true, Bool.not_eq_true', Bool.and_eq_false_iff, Bool.or_eq_false_iff, Bool.not_eq_false', decide_eq_true_eq, decide_eq_false_iff_not, beq_iff_eq, bne_iff_ne, beq_eq_false_iff_ne, bne_eq_false_iff_eq, Bool.true_and, ne_eq, Decidable.not_not, Int.not_lt, Int.not_le, Nat.not_lt, Nat.not_le, strB_nil, strB_nil', strB_nnil, strB_nnil'] at h13
                  refine run_skip ?_
                  refine run_endB ?_
                  refine run_region (q_add .n (.t rfl) (.c rfl) (fun _ => by first | omega | assumption | (simp only [List.length_append, List.length_cons, List.length_nil, List.length_replicate, put_len] at * <;> omega) | (exact cw_start hp1 hp3 hp4) | (exact cw_pot hp1 hp3 hp4) | (exact SmI.refl (by assumption)) | (exact SmI.mu (by assumption) (by assumption)) | (exact And.left (by assumption)) | ((have hS : SmI e.mine.Junctions x1.1 x3.1 x3.2.1 := (by assumption); have hl := hS.1.1; have hw0 := hp1.at (i := x2.2.2) (by omega); unfold AirIn at hw0; have hw1 := at2 hw0 (q := x3.2.2) (by omega); omega)) | ((have hS : SmI e.mine.Junctions x1.1 x3.1 x3.2.1 := (by assumption); have hl := hS.1.1; exact times_put hp1 hp3.2 hS (by omega) (by omega) (by assumption)))) rfl <|
                      q_move .n (.t rfl) rfl <|
                      Lex.nil) ?_
                  exact run_again (x3.1, x3.2.1, x3.2.2 + 1) ⟨by first | omega | assumption | (simp only [List.length_append, List.length_cons, List.length_nil, List.length_replicate, put_len] at * <;> omega) | (exact cw_start hp1 hp3 hp4) | (exact cw_pot hp1 hp3 hp4) | (exact SmI.refl (by assumption)) | (exact SmI.mu (by assumption) (by assumption)) | (exact And.left (by assumption)) | ((have hS : SmI e.mine.Junctions x1.1 x3.1 x3.2.1 := (by assumption); have hl := hS.1.1; have hw0 := hp1.at (i := x2.2.2) (by omega); unfold AirIn at hw0; have hw1 := at2 hw0 (q := x3.2.2) (by omega); omega)) | ((have hS : SmI e.mine.Junctions x1.1 x3.1 x3.2.1 := (by assumption); have hl := hS.1.1; exact times_put hp1 hp3.2 hS (by omega) (by omega) (by assumption))), by first | omega | assumption | (simp only [List.length_append, List.length_cons, List.length_nil, List.length_replicate, put_len] at * <;> omega) | (exact cw_start hp1 hp3 hp4) | (exact cw_pot hp1 hp3 hp4) | (exact SmI.refl (by assumption)) | (exact SmI.mu (by assumption) (by assumption)) | (exact And.left (by assumption)) | ((have hS : SmI e.mine.Junctions x1.1 x3.1 x3.2.1 := (by assumption); have hl := hS.1.1; have hw0 := hp1.at (i := x2.2.2) (by omega); unfold AirIn at hw0; have hw1 := at2 hw0 (q := x3.2.2) (by omega); omega)) | ((have hS : SmI e.mine.Junctions x1.1 x3.1 x3.2.1 := (by assumption); have hl := hS.1.1; exact times_put hp1 hp3.2 hS (by omega) (by omega) (by assumption))), by first | omega | assumption | (simp only [List.length_append, List.length_cons, List.length_nil, List.length_replicate, put_len] at * <;> omega) | (exact cw_start hp1 hp3 hp4) | (exact cw_pot hp1 hp3 hp4) | (exact SmI.refl (by assumption)) | (exact SmI.mu (by assumption) (by assumption)) | (exact And.left (by assumption)) | ((have hS : SmI e.mine.Junctions x1.1 x3.1 x3.2.1 := (by assumption); have hl := hS.1.1; have hw0 := hp1.at (i := x2.2.2) (by omega); unfold AirIn at hw0; have hw1 := at2 hw0 (q := x3.2.2) (by omega); omega)) | ((have hS : SmI e.mine.Junctions x1.1 x3.1 x3.2.1 := (by assumption); have hl := hS.1.1; exact times_put hp1 hp3.2 hS (by omega) (by omega) (by assumption))), by first | omega | assumption | (simp only [List.length_append, List.length_cons, List.length_nil, List.length_replicate, put_len] at * <;> omega) | (exact cw_start hp1 hp3 hp4) | (exact cw_pot hp1 hp3 hp4) | (exact SmI.refl (by assumption)) | (exact SmI.mu (by assumption) (by assumption)) | (exact And.left (by assumption)) | ((have hS : SmI e.mine.Junctions x1.1 x3.1 x3.2.1 := (by assumption); have hl := hS.1.1; have hw0 := hp1.at (i := x2.2.2) (by omega); unfold AirIn at hw0; have hw1 := at2 hw0 (q := x3.2.2) (by omega); omega)) | ((have hS : SmI e.mine.Junctions x1.1 x3.1 x3.2.1 := (by assumption); have hl := hS.1.1; exact times_put hp1 hp3.2 hS (by omega) (by omega) (by assumption)))⟩ (by first | omega | assumption | (simp only [List.length_append, List.length_cons, List.length_nil, List.length_replicate, put_len] at * <;> omega) | (exact cw_start hp1 hp3 hp4) | (exact cw_pot hp1 hp3 hp4) | (exact SmI.refl (by assumption)) | (exact SmI.mu (by assumption) (by assumption)) | (exact And.left (by assumption)) | ((have hS : SmI e.mine.Junctions x1.1 x3.1 x3.2.1 := (by assumption); have hl := hS.1.1; have hw0 := hp1.at (i := x2.2.2) (by omega); unfold AirIn at hw0; have hw1 := at2 hw0 (q := x3.2.2) (by omega); omega)) | ((have hS : SmI e.mine.Junctions x1.1 x3.1 x3.2.1 := (by assumption); have hl := hS.1.1; exact times_put hp1 hp3.2 hS (by omega) (by omega) (by assumption)))) (sub_of [] ⟨rfl, rfl, rfl, rfl, rfl, rfl, rfl, rfl, rfl, rfl, rfl, trivial⟩ ⟨rfl, rfl, rfl, rfl, trivial⟩ rfl)
              · try simp only [Bool.and_eq_true, Bool.or_eq_true, Bool.not_eq_true', Bool.and_eq_false_iff, Bool.or_eq_false_iff, Bool.not_eq_false', decide_eq_true_eq, decide_eq_false_iff_not, beq_iff_eq, bne_iff_ne, beq_eq_false_iff_ne, bne_eq_false_iff_eq, Bool.true_and, ne_eq, Decidable.not_not, Int.not_lt, Int.not_le, Nat.not_lt, Nat.not_le, strB_nil, strB_nil', strB_nnil, strB_nnil'] at h12
                refine run_exit rfl ?_
                exact run_cont hk10 (x3.1, x3.2.1, x3.2.2) ⟨by first | omega | assumption | (simp only [List.length_append, List.length_cons, List.length_nil, List.length_replicate, put_len] at * <;> omega) | (exact cw_start hp1 hp3 hp4) | (exact cw_pot hp1 hp3 hp4) | (exact SmI.refl (by assumption)) | (exact SmI.mu (by assumption) (by assumption)) | (exact And.left (by assumption)) | ((have hS : SmI e.mine.Junctions x1.1 x3.1 x3.2.1 := (by assumption); have hl := hS.1.1; have hw0 := hp1.at (i := x2.2.2) (by omega); unfold AirIn at hw0; have hw1 := at2 hw0 (q := x3.2.2) (by omega); omega)) | ((have hS : SmI e.mine.Junctions x1.1 x3.1 x3.2.1 := (by assumption); have hl := hS.1.1; exact times_put hp1 hp3.2 hS (by omega) (by omega) (by assumption))), by first | omega | assumption | (simp only [List.length_append, List.length_cons, List.length_nil, List.length_replicate, put_len] at * <;> omega) | (exact cw_start hp1 hp3 hp4) | (exact cw_pot hp1 hp3 hp4) | (exact SmI.refl (by assumption)) | (exact SmI.mu (by assumption) (by assumption)) | (exact And.left (by assumption)) | ((have hS : SmI e.mine.Junctions x1.1 x3.1 x3.2.1 := (by assumption); have hl := hS.1.1; have hw0 := hp1.at (i := x2.2.2) (by omega); unfold AirIn at hw0; have hw1 := at2 hw0 (q := x3.2.2) (by omega); omega)) | ((have hS : SmI e.mine.Junctions x1.1 x3.1 x3.2.1 := (by assumption); have hl := hS.1.1; exact times_put hp1 hp3.2 hS (by omega) (by omega) (by assumption))), by first | omega | assumption | (simp only [List.length_append, List.length_cons, List.length_nil, List.length_replicate, put_len] at * <;> omega) | (exact cw_start hp1 hp3 hp4) | (exact cw_pot hp1 hp3 hp4) | (exact SmI.refl (by assumption)) | (exact SmI.mu (by assumption) (by assumption)) | (exact And.left (by assumption)) | ((have hS : SmI e.mine.Junctions x1.1 x3.1 x3.2.1 := (by assumption); have hl := hS.1.1; have hw0 := hp1.at (i := x2.2.2) (by omega); unfold AirIn at hw0; have hw1 := at2 hw0 (q := x3.2.2) (by omega); omega)) | ((have hS : SmI e.mine.Junctions x1.1 x3.1 x3.2.1 := (by assumption); have hl := hS.1.1; exact times_put hp1 hp3.2 hS (by omega) (by omega) (by assumption))), by first | omega | assumption | (simp only [List.length_append, List.length_cons, List.length_nil, List.length_replicate, put_len] at * <;> omega) | (exact cw_start hp1 hp3 hp4) | (exact cw_pot hp1 hp3 hp4) | (exact SmI.refl (by assumption)) | (exact SmI.mu (by assumption) (by assumption)) | (exact And.left (by assumption)) | ((have hS : SmI e.mine.Junctions x1.1 x3.1 x3.2.1 := (by assumption); have hl := hS.1.1; have hw0 := hp1.at (i := x2.2.2) (by omega); unfold AirIn at hw0; have hw1 := at2 hw0 (q := x3.2.2) (by omega); omega)) | ((have hS : SmI e.mine.Junctions x1.1 x3.1 x3.2.1 := (by assumption); have hl := hS.1.1; exact times_put hp1 hp3.2 hS (by omega) (by omega) (by assumption))), by first | omega | assumption | (simp only [List.length_append, List.length_cons, List.length_nil, List.length_replicate, put_len] at * <;> omega) | (exact cw_start hp1 hp3 hp4) | (exact cw_pot hp1 hp3 hp4) | (exact SmI.refl (by assumption)) | (exact SmI.mu (by assumption) (by assumption)) | (exact And.left (by assumption)) | ((have hS : SmI e.mine.Junctions x1.1 x3.1 x3.2.1 := (by assumption); have hl := hS.1.1; have hw0 := hp1.at (i := x2.2.2) (by omega); unfold AirIn at hw0; have hw1 := at2 hw0 (q := x3.2.2) (by omega); omega)) | ((have hS : SmI e.mine.Junctions x1.1 x3.1 x3.2.1 := (by assumption); have hl := hS.1.1; exact times_put hp1 hp3.2 hS (by omega) (by omega) (by assumption)))⟩ (sub_of [] ⟨rfl, rfl, rfl, rfl, rfl, rfl, rfl, trivial⟩ ⟨rfl, rfl, rfl, trivial⟩ rfl)
          · try simp only [Bool.and_eq_true, Bool.or_eq_true, Bool.not_eq_true', Bool.and_eq_false_iff, Bool.or_eq_false_iff, Bool.not_eq_false', decide_eq_true_eq, decide_eq_false_iff_not, beq_iff_eq, bne_iff_ne, beq_eq_false_iff_ne, bne_eq_false_iff_eq, Bool.true_and, ne_eq, Decidable.not_not, Int.not_lt, Int.not_le, Nat.not_lt, Nat.not_le, strB_nil, strB_nil', strB_nnil, strB_nnil'] at h9
            refine run_exit rfl ?_
            exact run_cont hk7 (x2.1, x2.2.1, x2.2.2) ⟨by first | omega | assumption | (simp only [List.length_append, List.length_cons, List.length_nil, List.length_replicate, put_len] at * <;> omega) | (exact cw_start hp1 hp3 hp4) | (exact cw_pot hp1 hp3 hp4) | (exact SmI.refl (by assumption)) | (exact SmI.mu (by assumption) (by assumption)) | (exact And.left (by assumption)) | ((have hS : SmI e.mine.Junctions x1.1 x3.1 x3.2.1 := (by assumption); have hl := hS.1.1; have hw0 := hp1.at (i := x2.2.2) (by omega); unfold AirIn at hw0; have hw1 := at2 hw0 (q := x3.2.2) (by omega); omega)) | ((have hS : SmI e.mine.Junctions x1.1 x3.1 x3.2.1 := (by assumption); have hl := hS.1.1; exact times_put hp1 hp3.2 hS (by omega) (by omega) (by assumption))), by first | omega | assumption | (simp only [List.length_append, List.length_cons, List.length_nil, List.length_replicate, put_len] at * <;> omega) | (exact cw_start hp1 hp3 hp4) | (exact cw_pot hp1 hp3 hp4) | (exact SmI.refl (by assumption)) | (exact SmI.mu (by assumption) (by assumption)) | (exact And.left (by assumption)) | ((have hS : SmI e.mine.Junctions x1.1 x3.1 x3.2.1 := (by assumption); have hl := hS.1.1; have hw0 := hp1.at (i := x2.2.2) (by omega); unfold AirIn at hw0; have hw1 := at2 hw0 (q := x3.2.2) (by omega); omega)) | ((have hS : SmI e.mine.Junctions x1.1 x3.1 x3.2.1 := (by assumption); have hl := hS.1.1; exact times_put hp1 hp3.2 hS (by omega) (by omega) (by assumption))), by first | omega | assumption | (simp only [List.length_append, List.length_cons, List.length_nil, List.length_replicate, put_len] at * <;> omega) | (exact cw_start hp1 hp3 hp4) | (exact cw_pot hp1 hp3 hp4) | (exact SmI.refl (by assumption)) | (exact SmI.mu (by assumption) (by assumption)) | (exact And.left (by assumption)) | ((have hS : SmI e.mine.Junctions x1.1 x3.1 x3.2.1 := (by assumption); have hl := hS.1.1; have hw0 := hp1.at (i := x2.2.2) (by omega); unfold AirIn at hw0; have hw1 := at2 hw0 (q := x3.2.2) (by omega); omega)) | ((have hS : SmI e.mine.Junctions x1.1 x3.1 x3.2.1 := (by assumption); have hl := hS.1.1; exact times_put hp1 hp3.2 hS (by omega) (by omega) (by assumption))), by first | omega | assumption | (simp only [List.length_append, List.length_cons, List.length_nil, List.length_replicate, put_len] at * <;> omega) | (exact cw_start hp1 hp3 hp4) | (exact cw_pot hp1 hp3 hp4) | (exact SmI.refl (by assumption)) | (exact SmI.mu (by assumption) (by assumption)) | (exact And.left (by assumption)) | ((have hS : SmI e.mine.Junctions x1.1 x3.1 x3.2.1 := (by assumption); have hl := hS.1.1; have hw0 := hp1.at (i := x2.2.2) (by omega); unfold AirIn at hw0; have hw1 := at2 hw0 (q := x3.2.2) (by omega); omega)) | ((have hS : SmI e.mine.Junctions x1.1 x3.1 x3.2.1 := (by assumption); have hl := hS.1.1; exact times_put hp1 hp3.2 hS (by omega) (by omega) (by assumption)))⟩ (sub_of [] ⟨rfl, rfl, rfl, rfl, trivial⟩ ⟨rfl, rfl, rfl, trivial⟩ rfl)
      · try simp only [Bool.and_eq_true, Bool.or_eq_true, Bool.not_eq_true', Bool.and_eq_false_iff, Bool.or_eq_false_iff, Bool.not_eq_false', decide_eq_true_eq, decide_eq_false_iff_not, beq_iff_eq, bne_iff_ne, beq_eq_false_iff_ne, bne_eq_false_iff_eq, Bool.true_and, ne_eq, Decidable.not_not, Int.not_lt, Int.not_le, Nat.not_lt, Nat.not_le, strB_nil, strB_nil', strB_nnil, strB_nnil'] at h6
        refine run_exit rfl ?_
        exact run_cont hk4 (x1.1, x1.2) (by first | omega | assumption | (simp only [List.length_append, List.length_cons, List.length_nil, List.length_replicate, put_len] at * <;> omega) | (exact cw_start hp1 hp3 hp4) | (exact cw_pot hp1 hp3 hp4) | (exact SmI.refl (by assumption)) | (exact SmI.mu (by assumption) (by assumption)) | (exact And.left (by assumption)) | ((have hS : SmI e.mine.Junctions x1.1 x3.1 x3.2.1 := (by assumption); have hl := hS.1.1; have hw0 := hp1.at (i := x2.2.2) (by omega); unfold AirIn at hw0; have hw1 := at2 hw0 (q := x3.2.2) (by omega); omega)) | ((have hS : SmI e.mine.Junctions x1.1 x3.1 x3.2.1 := (by assumption); have hl := hS.1.1; exact times_put hp1 hp3.2 hS (by omega) (by omega) (by assumption)))) (sub_of [] ⟨rfl, trivial⟩ ⟨rfl, trivial⟩ rfl)

/-! ### impl_firstReached -/
theorem c_impl_firstReached (times : List Int) (junctions : List Int) (hp1 : ∀ y ∈ junctions, 0 ≤ y ∧ y < times.length) : Con Try.prog 54 [.sl 1 (times.map (V.int .i64)), .sl 1 (junctions.map (V.int .i64))] [] (.int .i64 (m_impl_firstReached times junctions)) ([]) := by
  refine con_intro (out := fun r : Int => ((.int .i64 r : V), ([] : List (Nat × Option O)))) (r := (m_impl_firstReached times junctions)) Try.func54 rfl Try.ntmps54 rfl ?_
  refine run_fact (t := 0) rfl fun hl => ?_
  have l1 := hl; clear hl; simp only [List.length_map] at l1
  refine run_fact (t := 1) rfl fun hl => ?_
  have l2 := hl; clear hl; simp only [List.length_map] at l2
  refine run_seq ?_
  refine run_region (q_assign .n (.c rfl) rfl <|
      Lex.nil) ?_
  refine run_seq ?_
  refine run_region (q_assign .n (.c rfl) rfl <|
      Lex.nil) ?_
  refine run_seq ?_
  refine run_seq ?_
  refine run_region (q_move .n (.t rfl) rfl <|
      q_len .n (.t rfl) rfl len_map ss_25 rfl <|
      q_move .n (.c rfl) rfl <|
      Lex.nil) ?_
  refine run_block ?_
  refine run_LOOP (m_impl_firstReached_b1 times junctions) _ _ _ rfl (fun (x1 : Int × Int) => 0 ≤ x1.2 ∧ x1.2 ≤ (junctions.length : Int) ∧ (x1.1 = -1 ∨ (0 ≤ x1.1 ∧ x1.1 < times.length))) (fun x1 => 0 ≤ x1.2 ∧ x1.2 ≤ (junctions.length : Int) ∧ (x1.1 = -1 ∨ (0 ≤ x1.1 ∧ x1.1 < times.length)) ∧ (junctions.length : Int) ≤ x1.2) (fun x1 => ((junctions.length : Int) - x1.2 : Int).toNat) (fun x1 => ⟨[(0, some (true, .sl 1 (times.map (V.int .i64)))), (5, some (true, .int .i64 x1.1)), (9, some (true, .sl 1 (junctions.map (V.int .i64)))), (10, some (true, .int .i64 (junctions.length : Int))), (11, some (true, .int .i64 x1.2))], []⟩) (fun x1 => ⟨[(5, some (true, .int .i64 x1.1))], []⟩) ⟨by first | omega | assumption | (simp only [List.length_append, List.length_cons, List.length_nil, List.length_replicate, put_len] at * <;> omega) | ((have hb := at_all (i := x1.2) hp1 (by omega); omega)), by first | omega | assumption | (simp only [List.length_append, List.length_cons, List.length_nil, List.length_replicate, put_len] at * <;> omega) | ((have hb := at_all (i := x1.2) hp1 (by omega); omega)), by first | omega | assumption | (simp only [List.length_append, List.length_cons, List.length_nil, List.length_replicate, put_len] at * <;> omega) | ((have hb := at_all (i := x1.2) hp1 (by omega); omega))⟩ (by first | omega | assumption | (simp only [List.length_append, List.length_cons, List.length_nil, List.length_replicate, put_len] at * <;> omega) | ((have hb := at_all (i := x1.2) hp1 (by omega); omega))) (sub_of [] ⟨rfl, rfl, rfl, rfl, rfl, trivial⟩ trivial rfl) ?_ ?_
  · intro x1 i7
    obtain ⟨e8, e9, e10, e11⟩ := i7
    try dsimp only at *
    refine run_seq ?_
    refine run_region (q_move .n (.t rfl) rfl <|
        q_assign .n (.t rfl) rfl <|
        Lex.nil) ?_
    exact run_ret [] (.cons (.t rfl rfl) .nil) rfl trivial rfl
  · intro rec1 k1 hk3 x1 i4
    obtain ⟨e12, e13, e14⟩ := i4
    try dsimp only at *
    refine run_seq ?_
    refine run_region (q_int .n (.t rfl) (.t rfl) rfl rfl <|
        Lex.nil) ?_
    refine run_seq ?_
    refine run_cond (.t rfl) rfl (fun h5 => ?_) (fun h5 => ?_)
    · try simp only [Bool.and_eq_true, Bool.or_eq_true, Bool.not_eq_true', Bool.and_eq_false_iff, Bool.or_eq_false_iff, Bool.not_eq_false', decide_eq_true_eq, decide_eq_false_iff_not, beq_iff_eq, bne_iff_ne, beq_eq_false_iff_ne, bne_eq_false_iff_eq, Bool.true_and, ne_eq, Decidable.not_not, Int.not_lt, Int.not_le, Nat.not_lt, Nat.not_le, strB_nil, strB_nil', strB_nnil, strB_nnil'] at h5
      refine run_skip ?_
      refine run_seq ?_
      refine run_block ?_
      refine run_seq ?_
      refine run_region (q_idx_rm .n (.t rfl) (.t rfl) sl_25 (fun _ => by first | omega | assumption | (simp only [List.length_append, List.length_cons, List.length_nil, List.length_replicate, put_len] at * <;> omega) | ((have hb := at_all (i := x1.2) hp1 (by omega); omega))) rfl <|
          q_ld1_ro .n (.t rfl) rfl ic_2 rfl <|
          q_assign .n (.t rfl) rfl <|
          Lex.nil) ?_
      refine run_seq ?_
      refine run_region (q_move .n (.t rfl) rfl <|
          q_move .n (.t rfl) rfl <|
          q_idx_rm .n (.t rfl) (.t rfl) sl_25 (fun _ => by first | omega | assumption | (simp only [List.length_append, List.length_cons, List.length_nil, List.length_replicate, put_len] at * <;> omega) | ((have hb := at_all (i := x1.2) hp1 (by omega); omega))) rfl <|
          q_ld1_ro .n (.t rfl) rfl ic_2 rfl <|
          q_assign .n (.t rfl) rfl <|
          Lex.nil) ?_
      refine run_seq ?_
      refine run_region (q_move .n (.t rfl) rfl <|
          q_int .n (.t rfl) (.c rfl) rfl rfl <|
          q_move .n (.t rfl) rfl <|
          q_move (.t rfl rfl) (.t rfl) rfl <|
          q_int (.t rfl rfl) (.u rfl id) (.c rfl) rfl rfl <|
          q_move (.t rfl rfl) (.u rfl id) rfl <|
          q_move (.f rfl rfl) (.t rfl) rfl <|
          q_move (.f rfl rfl) (.t rfl) rfl <|
          q_move (.f rfl rfl) (.t rfl) rfl <|
          q_idx_rm (.f rfl rfl) (.u rfl id) (.u rfl id) sl_25 (fun hg => by simp only [Bool.and_eq_true, Bool.or_eq_true, Bool.not_eq_true', Bool.and_eq_false_iff, Bool.or_eq_false_iff, Bool.not_eq_false', decide_eq_true_eq, decide_eq_false_iff_not, beq_iff_eq, bne_iff_ne, beq_eq_false_iff_ne, bne_eq_false_iff_eq, Bool.true_and, ne_eq, Decidable.not_not, Int.not_lt, Int.not_le, Nat.not_lt, Nat.not_le, strB_nil, strB_nil', strB_nnil, strB_nnil'] at hg; first | omega | assumption | (simp only [List.length_append, List.length_cons, List.length_nil, List.length_replicate, put_len] at * <;> omega) | ((have hb := at_all (i := x1.2) hp1 (by omega); omega))) rfl <|
          q_ld1_ro (.f rfl rfl) (.u rfl id) rfl ic_2 rfl <|
          q_int (.f rfl rfl) (.u rfl id) (.u rfl id) rfl rfl <|
          q_or (.t rfl rfl) (.u rfl id) (.u rfl id) rfl <|
          q_and .n (.t rfl) (.u rfl id) rfl <|
          Lex.nil) ?_
      refine run_cond (.t rfl) rfl (fun h6 => ?_) (fun h6 => ?_)
      · try simp only [Bool.and_eq_true, Bool.or_eq_true, Bool.not_eq_true', Bool.and_eq_false_iff, Bool.or_eq_false_iff, Bool.not_eq_false', decide_eq_true_eq, decide_eq_false_iff_not, beq_iff_eq, bne_iff_ne, beq_eq_false_iff_ne, bne_eq_false_iff_eq, Bool.true_and, ne_eq, Decidable.not_not, Int.not_lt, Int.not_le, Nat.not_lt, Nat.not_le, strB_nil, strB_nil', strB_nnil, strB_nnil'] at h6
        refine run_region (q_move .n (.t rfl) rfl <|
            q_assign .n (.t rfl) rfl <|
            Lex.nil) ?_
        refine run_endB ?_
        refine run_region (q_add .n (.t rfl) (.c rfl) (fun _ => by first | omega | assumption | (simp only [List.length_append, List.length_cons, List.length_nil, List.length_replicate, put_len] at * <;> omega) | ((have hb := at_all (i := x1.2) hp1 (by omega); omega))) rfl <|
            q_move .n (.t rfl) rfl <|
            Lex.nil) ?_
        exact run_again (at' junctions x1.2, x1.2 + 1) ⟨by first | omega | assumption | (simp only [List.length_append, List.length_cons, List.length_nil, List.length_replicate, put_len] at * <;> omega) | ((have hb := at_all (i := x1.2) hp1 (by omega); omega)), by first | omega | assumption | (simp only [List.length_append, List.length_cons, List.length_nil, List.length_replicate, put_len] at * <;> omega) | ((have hb := at_all (i := x1.2) hp1 (by omega); omega)), by first | omega | assumption | (simp only [List.length_append, List.length_cons, List.length_nil, List.length_replicate, put_len] at * <;> omega) | ((have hb := at_all (i := x1.2) hp1 (by omega); omega))⟩ (by first | omega | assumption | (simp only [List.length_append, List.length_cons, List.length_nil, List.length_replicate, put_len] at * <;> omega) | ((have hb := at_all (i := x1.2) hp1 (by omega); omega))) (sub_of [] ⟨rfl, rfl, rfl, rfl, rfl, trivial⟩ trivial rfl)
      · try simp only [Bool.and_eq_true, Bool.or_eq_true, Bool.not_eq_true', Bool.and_eq_false_iff, Bool.or_eq_false_iff, Bool.not_eq_false', decide_eq_true_eq, decide_eq_false_iff_not, beq_iff_eq, bne_iff_ne, beq_eq_false_iff_ne, bne_eq_false_iff_eq, Bool.true_and, ne_eq, Decidable.not_not, Int.not_lt, Int.not_le, Nat.not_lt, Nat.not_le, strB_nil, strB_nil', strB_nnil, strB_nnil'] at h6
        refine run_skip ?_
        refine run_endB ?_
        refine run_region (q_add .n (.t rfl) (.c rfl) (fun _ => by first | omega | assumption | (simp only [List.length_append, List.length_cons, List.length_nil, List.length_replicate, put_len] at * <;> omega) | ((have hb := at_all (i := x1.2) hp1 (by omega); omega))) rfl <|
            q_move .n (.t rfl) rfl <|
            Lex.nil) ?_
        exact run_again (x1.1, x1.2 + 1) ⟨by first | omega | assumption | (simp only [List.length_append, List.length_cons, List.length_nil, List.length_replicate, put_len] at * <;> omega) | ((have hb := at_all (i := x1.2) hp1 (by omega); omega)), by first | omega | assumption | (simp only [List.length_append, List.length_cons, List.length_nil, List.length_replicate, put_len] at * <;> omega) | ((have hb := at_all (i := x1.2) hp1 (by omega); omega)), by first | omega | assumption | (simp only [List.length_append, List.length_cons, List.length_nil, List.length_replicate, put_len] at * <;> omega) | ((have hb := at_all (i := x1.2) hp1 (by omega); omega))⟩ (by first | omega | assumption | (simp only [List.length_append, List.length_cons, List.length_nil, List.length_replicate, put_len] at * <;> omega) | ((have hb := at_all (i := x1.2) hp1 (by omega); omega))) (sub_of [] ⟨rfl, rfl, rfl, rfl, rfl, trivial⟩ trivial rfl)
    · try simp only [Bool.and_eq_true, Bool.or_eq_true, Bool.not_eq_true', Bool.and_eq_false_iff, Bool.or_eq_false_iff, Bool.not_eq_false', decide_eq_true_eq, decide_eq_false_iff_not, beq_iff_eq, bne_iff_ne, beq_eq_false_iff_ne, bne_eq_false_iff_eq, Bool.true_and, ne_eq, Decidable.not_not, Int.not_lt, Int.not_le, Nat.not_lt, Nat.not_le, strB_nil, strB_nil', strB_nnil, strB_nnil'] at h5
      refine run_exit rfl ?_
      exact run_cont hk3 (x1.1, x1.2) ⟨by first | omega | assumption | (simp only [List.length_append, List.length_cons, List.length_nil, List.length_replicate, put_len] at * <;> omega) | ((have hb := at_all (i := x1.2) hp1 (by omega); omega)), by first | omega | assumption | (simp only [List.length_append, List.length_cons, List.length_nil, List.length_replicate, put_len] at * <;> omega) | ((have hb := at_all (i := x1.2) hp1 (by omega); omega)), by first | omega | assumption | (simp only [List.length_append, List.length_cons, List.length_nil, List.length_replicate, put_len] at * <;> omega) | ((have hb := at_all (i := x1.2) hp1 (by omega); omega)), by first | omega | assumption | (simp only [List.length_append, List.length_cons, List.length_nil, List.length_replicate, put_len] at * <;> omega) | ((have hb := at_all (i := x1.2) hp1 (by omega); omega))⟩ (sub_of [] ⟨rfl, trivial⟩ trivial rfl)

/-! ### impl_least -/
theorem c_impl_least (low : Int) (high : Int) (has : Int → Bool) (F_has : FuncId) (C_has : List V) (he_has : entB Try.prog F_has = true) (hr_has : C_has.all V.ro = true) (Q_has : Int → Prop) (hc_has : ∀ (a0 : Int), Q_has a0 → Con Try.prog F_has ([.int .i64 a0] ++ C_has) [] (.bool (has a0)) []) (hp1 : 0 ≤ low ∧ low ≤ high + 1 ∧ high ≤ 1000) (hp2 : ∀ x, low ≤ x → x ≤ high → Q_has x) : Con Try.prog 69 [.int .i64 low, .int .i64 high, .clo F_has C_has] [] (.tup [.int .i64 (m_impl_least low high has).1, .bool (m_impl_least low high has).2]) ([]) := by
  refine con_intro (out := fun r : Int × Bool => ((.tup [.int .i64 r.1, .bool r.2] : V), ([] : List (Nat × Option O)))) (r := (m_impl_least low high has)) Try.func69 rfl Try.ntmps69 rfl ?_
  refine run_seq ?_
  refine run_region (q_assign .n (.c rfl) rfl <|
      q_assign .n (.c rfl) rfl <|
      Lex.nil) ?_
  refine run_seq ?_
  refine run_seq ?_
  refine run_region (q_move .n (.t rfl) rfl <|
      q_assign .n (.t rfl) rfl <|
      Lex.nil) ?_
  refine run_block ?_
  refine run_LOOP (m_impl_least_b1 low high has) _ _ _ rfl (fun (x1 : Int) => low ≤ x1 ∧ low ≤ x1 ∧ x1 ≤ high + 1) (fun x1 => low ≤ x1 ∧ low ≤ x1 ∧ x1 ≤ high + 1) (fun x1 => (high + 1 - x1 : Int).toNat) (fun x1 => ⟨[(1, some (true, .int .i64 high)), (2, some (true, .clo F_has C_has)), (8, some (true, .int .i64 x1))], []⟩) (fun x1 => ⟨[], []⟩) ⟨by first | omega | assumption | (simp only [List.length_append, List.length_cons, List.length_nil, List.length_replicate, put_len] at * <;> omega), by first | omega | assumption | (simp only [List.length_append, List.length_cons, List.length_nil, List.length_replicate, put_len] at * <;> omega)⟩ (by first | omega | assumption | (simp only [List.length_append, List.length_cons, List.length_nil, List.length_replicate, put_len] at * <;> omega)) (sub_of [] ⟨rfl, clo_ren hr_has rfl, rfl, trivial⟩ trivial rfl) ?_ ?_
  · intro x1 i5
    obtain ⟨e6, e7⟩ := i5
    try dsimp only at *
    refine run_seq ?_
    refine run_region (q_assign .n (.c rfl) rfl <|
        q_assign .n (.c rfl) rfl <|
        Lex.nil) ?_
    exact run_ret [] (.cons (.t rfl rfl) (.cons (.t rfl rfl) .nil)) rfl trivial rfl
  · intro rec1 k1 hk1 x1 i2
    obtain ⟨e8, e9⟩ := i2
    try dsimp only at *
    refine run_seq ?_
    refine run_seq ?_
    refine run_region (q_move .n (.t rfl) rfl <|
        q_move .n (.t rfl) rfl <|
        q_int .n (.t rfl) (.t rfl) rfl rfl <|
        Lex.nil) ?_
    refine run_cond (.t rfl) rfl (fun h3 => ?_) (fun h3 => ?_)
    · try simp only [Bool.and_eq_true, Bool.or_eq_true, Bool.not_eq_true', Bool.and_eq_false_iff, Bool.or_eq_false_iff, Bool.not_eq_false', decide_eq_true_eq, decide_eq_false_iff_not, beq_iff_eq, bne_iff_ne, beq_eq_false_iff_ne, bne_eq_false_iff_eq, Bool.true_and, ne_eq, Decidable.not_not, Int.not_lt, Int.not_le, Nat.not_lt, Nat.not_le, strB_nil, strB_nil', strB_nnil, strB_nnil'] at h3
      refine run_skip ?_
      refine run_seq ?_
      refine run_block ?_
      refine run_seq ?_
      refine run_region (q_move .n (.t rfl) rfl <|
          q_move .n (.t rfl) rfl <|
          q_call0 (full := false) .n (.c (.t rfl)) he_has (.cons (.t rfl) .nil) (passes_app hr_has (.cons (.b (.a (.same rfl))) .nil)) (fun hg => hc_has x1 (by exact hp2 _ (by omega) (by omega))) rfl (fun h => Bool.noConfusion h) rfl <|
          Lex.nil) ?_
      refine run_cond (.t rfl) rfl (fun h4 => ?_) (fun h4 => ?_)
      · try simp only [Bool.and_eq_true, Bool.or_eq_true, Bool.not_eq_true', Bool.and_eq_false_iff, Bool.or_eq_false_iff, Bool.not_eq_false', decide_eq_true_eq, decide_eq_false_iff_not, beq_iff_eq, bne_iff_ne, beq_eq_false_iff_ne, bne_eq_false_iff_eq, Bool.true_and, ne_eq, Decidable.not_not, Int.not_lt, Int.not_le, Nat.not_lt, Nat.not_le, strB_nil, strB_nil', strB_nnil, strB_nnil'] at h4
        refine run_seq ?_
        refine run_region (q_move .n (.t rfl) rfl <|
            q_assign .n (.t rfl) rfl <|
            q_assign .n (.c rfl) rfl <|
            Lex.nil) ?_
        exact run_ret [] (.cons (.t rfl rfl) (.cons (.t rfl rfl) .nil)) rfl trivial rfl
      · try simp only [Bool.and_eq_true, Bool.or_eq_true, Bool.not_eq_true', Bool.and_eq_false_iff, Bool.or_eq_false_iff, Bool.not_eq_false', decide_eq_true_eq, decide_eq_false_iff_not, beq_iff_eq, bne_iff_ne, beq_eq_false_iff_ne, bne_eq_false_iff_eq, Bool.true_and, ne_eq, Decidable.not_not, Int.not_lt, Int.not_le, Nat.not_lt, Nat.not_le, strB_nil, strB_nil', strB_nnil, strB_nnil'] at h4
        refine run_skip ?_
        refine run_endB ?_
        refine run_region (q_move .n (.t rfl) rfl <|
            q_add .n (.t rfl) (.c rfl) (fun _ => by first | omega | assumption | (simp only [List.length_append, List.length_cons, List.length_nil, List.length_replicate, put_len] at * <;> omega)) rfl <|
            q_assign .n (.t rfl) rfl <|
            Lex.nil) ?_
        exact run_again (x1 + 1) ⟨by first | omega | assumption | (simp only [List.length_append, List.length_cons, List.length_nil, List.length_replicate, put_len] at * <;> omega), by first | omega | assumption | (simp only [List.length_append, List.length_cons, List.length_nil, List.length_replicate, put_len] at * <;> omega)⟩ (by first | omega | assumption | (simp only [List.length_append, List.length_cons, List.length_nil, List.length_replicate, put_len] at * <;> omega)) (sub_of [] ⟨rfl, clo_ren hr_has rfl, rfl, trivial⟩ trivial rfl)
    · try simp only [Bool.and_eq_true, Bool.or_eq_true, Bool.not_eq_true', Bool.and_eq_false_iff, Bool.or_eq_false_iff, Bool.not_eq_false', decide_eq_true_eq, decide_eq_false_iff_not, beq_iff_eq, bne_iff_ne, beq_eq_false_iff_ne, bne_eq_false_iff_eq, Bool.true_and, ne_eq, Decidable.not_not, Int.not_lt, Int.not_le, Nat.not_lt, Nat.not_le, strB_nil, strB_nil', strB_nnil, strB_nnil'] at h3
      refine run_exit rfl ?_
      exact run_cont hk1 x1 ⟨by first | omega | assumption | (simp only [List.length_append, List.length_cons, List.length_nil, List.length_replicate, put_len] at * <;> omega), by first | omega | assumption | (simp only [List.length_append, List.length_cons, List.length_nil, List.length_replicate, put_len] at * <;> omega)⟩ (sub_of [] trivial trivial rfl)

/-! ### impl_Airway_other -/
theorem c_impl_Airway_other (a : gAirway) (junction : Int) : Con Try.prog 98 [.st [.str a.Id, .int .i64 a.From, .int .i64 a.To, .int .i64 a.Length, .int .i64 a.Section, .int .i64 a.Friction, .int .i64 a.Shock], .int .i64 junction] [] (.tup [.int .i64 (m_impl_Airway_other a junction).1, .bool (m_impl_Airway_other a junction).2]) ([]) := by
  refine con_intro (out := fun r : Int × Bool => ((.tup [.int .i64 r.1, .bool r.2] : V), ([] : List (Nat × Option O)))) (r := (m_impl_Airway_other a junction)) Try.func98 rfl Try.ntmps98 rfl ?_
  refine run_seq ?_
  refine run_region (q_box (l := 200) .n rfl (.t rfl) rfl rfl rfl rfl <|
      q_assign .n (.c rfl) rfl <|
      q_assign .n (.c rfl) rfl <|
      Lex.nil) ?_
  refine run_seq ?_
  refine run_seq ?_
  refine run_region (q_move .n (.t rfl) rfl <|
      Lex.nil) ?_
  refine run_block ?_
  refine run_seq ?_
  refine run_region (q_fld_ow .n (.t rfl) fo_120_1 rfl <|
      q_ld1_ow .n (.t rfl) rfl (.inr rfl) (fun _ => rfl) rfl ic_2 rfl <|
      q_int .n (.t rfl) (.t rfl) rfl rfl <|
      q_assign .n (.t rfl) rfl <|
      Lex.nil) ?_
  refine run_cond (.t rfl) rfl (fun h1 => ?_) (fun h1 => ?_)
  · try simp only [Bool.and_eq_true, Bool.or_eq_true, Bool.not_eq_true', Bool.and_eq_false_iff, Bool.or_eq_false_iff, Bool.not_eq_false', decide_eq_true_eq, decide_eq_false_iff_not, beq_iff_eq, bne_iff_ne, beq_eq_false_iff_ne, bne_eq_false_iff_eq, Bool.true_and, ne_eq, Decidable.not_not, Int.not_lt, Int.not_le, Nat.not_lt, Nat.not_le, strB_nil, strB_nil', strB_nnil, strB_nnil'] at h1
    refine run_seq ?_
    refine run_region (q_fld_ow .n (.t rfl) fo_120_2 rfl <|
        q_ld1_ow .n (.t rfl) rfl (.inr rfl) (fun _ => rfl) rfl ic_2 rfl <|
        q_assign .n (.t rfl) rfl <|
        q_assign .n (.c rfl) rfl <|
        Lex.nil) ?_
    exact run_ret [] (.cons (.t rfl rfl) (.cons (.t rfl rfl) .nil)) rfl trivial rfl
  · try simp only [Bool.and_eq_true, Bool.or_eq_true, Bool.not_eq_true', Bool.and_eq_false_iff, Bool.or_eq_false_iff, Bool.not_eq_false', decide_eq_true_eq, decide_eq_false_iff_not, beq_iff_eq, bne_iff_ne, beq_eq_false_iff_ne, bne_eq_false_iff_eq, Bool.true_and, ne_eq, Decidable.not_not, Int.not_lt, Int.not_le, Nat.not_lt, Nat.not_le, strB_nil, strB_nil', strB_nnil, strB_nnil'] at h1
    refine run_seq ?_
    refine run_region (q_fld_ow .n (.t rfl) fo_120_2 rfl <|
        q_ld1_ow .n (.t rfl) rfl (.inr rfl) (fun _ => rfl) rfl ic_2 rfl <|
        q_int .n (.t rfl) (.t rfl) rfl rfl <|
        q_assign .n (.t rfl) rfl <|
        Lex.nil) ?_
    refine run_cond (.t rfl) rfl (fun h2 => ?_) (fun h2 => ?_)
    · try simp only [Bool.and_eq_true, Bool.or_eq_true, Bool.not_eq_true', Bool.and_eq_false_iff, Bool.or_eq_false_iff, Bool.not_eq_false', decide_eq_true_eq, decide_eq_false_iff_not, beq_iff_eq, bne_iff_ne, beq_eq_false_iff_ne, bne_eq_false_iff_eq, Bool.true_and, ne_eq, Decidable.not_not, Int.not_lt, Int.not_le, Nat.not_lt, Nat.not_le, strB_nil, strB_nil', strB_nnil, strB_nnil'] at h2
      refine run_seq ?_
      refine run_region (q_fld_ow .n (.t rfl) fo_120_1 rfl <|
          q_ld1_ow .n (.t rfl) rfl (.inr rfl) (fun _ => rfl) rfl ic_2 rfl <|
          q_assign .n (.t rfl) rfl <|
          q_assign .n (.c rfl) rfl <|
          Lex.nil) ?_
      exact run_ret [] (.cons (.t rfl rfl) (.cons (.t rfl rfl) .nil)) rfl trivial rfl
    · try simp only [Bool.and_eq_true, Bool.or_eq_true, Bool.not_eq_true', Bool.and_eq_false_iff, Bool.or_eq_false_iff, Bool.not_eq_false', decide_eq_true_eq, decide_eq_false_iff_not, beq_iff_eq, bne_iff_ne, beq_eq_false_iff_ne, bne_eq_false_iff_eq, Bool.true_and, ne_eq, Decidable.not_not, Int.not_lt, Int.not_le, Nat.not_lt, Nat.not_le, strB_nil, strB_nil', strB_nnil, strB_nnil'] at h2
      refine run_skip ?_
      refine run_endB ?_
      refine run_seq ?_
      refine run_region (q_assign .n (.c rfl) rfl <|
          q_assign .n (.c rfl) rfl <|
          Lex.nil) ?_
      exact run_ret [] (.cons (.t rfl rfl) (.cons (.t rfl rfl) .nil)) rfl trivial rfl

/-! ### impl_escape_between -/
theorem c_impl_escape_between (e : gescape) (from_ : Int) (to : Int) (speed : Int) (hp1 : 10 ≤ speed ∧ speed ≤ 300) : Con Try.prog 71 [.st [.int .i64 e.mine.Junctions, .sl 7 (e.mine.Airways.map gAirway.v), .sl 1 (e.arrivals.map (V.int .i64)), .int .i64 e.blocked], .int .i64 from_, .int .i64 to, .int .i64 speed] [] (.tup [.int .i64 (m_impl_escape_between e from_ to speed).1, .bool (m_impl_escape_between e from_ to speed).2]) ([]) := by
  refine con_intro (out := fun r : Int × Bool => ((.tup [.int .i64 r.1, .bool r.2] : V), ([] : List (Nat × Option O)))) (r := (m_impl_escape_between e from_ to speed)) Try.func71 rfl Try.ntmps71 rfl ?_
  refine run_factS (t := 0) 1 rfl rfl fun hl => ?_
  have l1 := hl; clear hl; simp only [List.length_map] at l1
  refine run_factS (t := 0) 2 rfl rfl fun hl => ?_
  have l2 := hl; clear hl; simp only [List.length_map] at l2
  refine run_seq ?_
  refine run_region (q_box (l := 200) .n rfl (.t rfl) rfl rfl rfl rfl <|
      q_assign .n (.c rfl) rfl <|
      q_assign .n (.c rfl) rfl <|
      Lex.nil) ?_
  refine run_seq ?_
  refine run_region (q_assign .n (.c rfl) rfl <|
      Lex.nil) ?_
  refine run_seq ?_
  refine run_seq ?_
  refine run_region (q_fld_ow .n (.t rfl) fo_78_0 rfl <|
      q_fld_ow .n (.t rfl) fo_34_1 rfl <|
      q_ld1_ow .n (.t rfl) rfl (.inr rfl) (fun _ => rfl) rfl ic_32 rfl <|
      q_len .n (.t rfl) rfl len_map ss_32 rfl <|
      q_move .n (.c rfl) rfl <|
      Lex.nil) ?_
  refine run_block ?_
  refine run_LOOP (m_impl_escape_between_b1 e from_ to speed) _ _ _ rfl (fun (x1 : Int × Int) => 0 ≤ x1.2 ∧ x1.2 ≤ (e.mine.Airways.length : Int)) (fun x1 => 0 ≤ x1.2 ∧ x1.2 ≤ (e.mine.Airways.length : Int) ∧ (e.mine.Airways.length : Int) ≤ x1.2) (fun x1 => ((e.mine.Airways.length : Int) - x1.2 : Int).toNat) (fun x1 => ⟨[(1, some (true, .int .i64 from_)), (2, some (true, .int .i64 to)), (3, some (true, .int .i64 speed)), (4, some (true, .op 200 0 0 0)), (10, some (true, .int .i64 x1.1)), (18, some (true, .sl 7 (e.mine.Airways.map gAirway.v))), (19, some (true, .int .i64 (e.mine.Airways.length : Int))), (20, some (true, .int .i64 x1.2))], [(200, some (.box 78 [.int .i64 e.mine.Junctions, .sl 7 (e.mine.Airways.map gAirway.v), .sl 1 (e.arrivals.map (V.int .i64)), .int .i64 e.blocked]))]⟩) (fun x1 => ⟨[(10, some (true, .int .i64 x1.1))], []⟩) ⟨by first | omega | assumption | (simp only [List.length_append, List.length_cons, List.length_nil, List.length_replicate, put_len] at * <;> omega), by first | omega | assumption | (simp only [List.length_append, List.length_cons, List.length_nil, List.length_replicate, put_len] at * <;> omega)⟩ (by first | omega | assumption | (simp only [List.length_append, List.length_cons, List.length_nil, List.length_replicate, put_len] at * <;> omega)) (sub_of [] ⟨rfl, rfl, rfl, rfl, rfl, rfl, rfl, rfl, trivial⟩ ⟨rfl, trivial⟩ rfl) ?_ ?_
  · intro x1 i7
    obtain ⟨e8, e9, e10⟩ := i7
    try dsimp only at *
    refine run_seq ?_
    refine run_region (q_move .n (.t rfl) rfl <|
        q_move .n (.t rfl) rfl <|
        q_int .n (.t rfl) (.c rfl) rfl rfl <|
        q_assign .n (.t rfl) rfl <|
        q_assign .n (.t rfl) rfl <|
        Lex.nil) ?_
    exact run_ret [] (.cons (.t rfl rfl) (.cons (.t rfl rfl) .nil)) rfl trivial rfl
  · intro rec1 k1 hk3 x1 i4
    obtain ⟨e11, e12⟩ := i4
    try dsimp only at *
    refine run_seq ?_
    refine run_region (q_int .n (.t rfl) (.t rfl) rfl rfl <|
        Lex.nil) ?_
    refine run_seq ?_
    refine run_cond (.t rfl) rfl (fun h5 => ?_) (fun h5 => ?_)
    · try simp only [Bool.and_eq_true, Bool.or_eq_true, Bool.not_eq_true', Bool.and_eq_false_iff, Bool.or_eq_false_iff, Bool.not_eq_false', decide_eq_true_eq, decide_eq_false_iff_not, beq_iff_eq, bne_iff_ne, beq_eq_false_iff_ne, bne_eq_false_iff_eq, Bool.true_and, ne_eq, Decidable.not_not, Int.not_lt, Int.not_le, Nat.not_lt, Nat.not_le, strB_nil, strB_nil', strB_nnil, strB_nnil'] at h5
      refine run_skip ?_
      refine run_seq ?_
      refine run_block ?_
      refine run_seq ?_
      refine run_region (q_move .n (.t rfl) rfl <|
          q_idx_rm .n (.t rfl) (.t rfl) sl_32 (fun _ => by first | omega | assumption | (simp only [List.length_append, List.length_cons, List.length_nil, List.length_replicate, put_len] at * <;> omega)) rfl <|
          q_ldN_ro .n (.t rfl) ag_120 rfl rfl rfl <|
          q_alloc (l := 201) .n rfl zv_120 rfl rfl <|
          q_assign .n (.t rfl) rfl <|
          q_st_boxm [.str (at' e.mine.Airways x1.2).Id, .int .i64 (at' e.mine.Airways x1.2).From, .int .i64 (at' e.mine.Airways x1.2).To, .int .i64 (at' e.mine.Airways x1.2).Length, .int .i64 (at' e.mine.Airways x1.2).Section, .int .i64 (at' e.mine.Airways x1.2).Friction, .int .i64 (at' e.mine.Airways x1.2).Shock] .n rfl (.t rfl) (.t rfl) rfl ts_120 rfl rfl <|
          Lex.nil) ?_
      refine run_seq ?_
      refine run_region (q_ldN_ow .n (.t rfl) rfl (.inr rfl) ag_120 (fun _ => rfl) rfl rfl <|
          q_move .n (.t rfl) rfl <|
          q_call0 (full := false) .n .f en_98 (.cons (.t rfl) (.cons (.t rfl) .nil)) (.cons (.sts rfl) (.cons (.b (.a (.same rfl))) .nil)) (fun hg => c_impl_Airway_other (at' e.mine.Airways x1.2) from_) rfl (fun h => Bool.noConfusion h) rfl <|
          q_move .n (.t rfl) rfl <|
          q_ext .n (.t rfl) rfl rfl rfl <|
          q_ext .n (.t rfl) rfl rfl rfl <|
          q_assign .n (.t rfl) rfl <|
          q_assign .n (.t rfl) rfl <|
          Lex.nil) ?_
      refine run_seq ?_
      refine run_region (q_ldN_ow .n (.t rfl) rfl (.inr rfl) ag_120 (fun _ => rfl) rfl rfl <|
          q_move .n (.t rfl) rfl <|
          q_call0 (full := false) .n .f en_85 (.cons (.t rfl) (.cons (.t rfl) .nil)) (.cons (.sts rfl) (.cons (.b (.a (.same rfl))) .nil)) (fun hg => c_impl_Airway_walkTime (at' e.mine.Airways x1.2) speed (by first | omega | assumption | (simp only [List.length_append, List.length_cons, List.length_nil, List.length_replicate, put_len] at * <;> omega))) rfl (fun h => Bool.noConfusion h) rfl <|
          q_assign .n (.t rfl) rfl <|
          Lex.nil) ?_
      refine run_seq ?_
      refine run_region (q_move .n (.t rfl) rfl <|
          q_move .n (.t rfl) rfl <|
          q_move (.t rfl rfl) (.t rfl) rfl <|
          q_move (.t rfl rfl) (.t rfl) rfl <|
          q_int (.t rfl rfl) (.u rfl id) (.u rfl id) rfl rfl <|
          q_and .n (.t rfl) (.u rfl id) rfl <|
          q_move .n (.t rfl) rfl <|
          q_move (.t rfl rfl) (.t rfl) rfl <|
          q_fld_ow (.t rfl rfl) (.t rfl) fo_78_2 rfl <|
          q_ld1_ow (.t rfl rfl) (.u rfl id) rfl (.inr rfl) (fun _ => rfl) rfl ic_2 rfl <|
          q_int (.t rfl rfl) (.u rfl id) (.u rfl id) rfl rfl <|
          q_and .n (.t rfl) (.u rfl id) rfl <|
          q_move .n (.t rfl) rfl <|
          q_move (.t rfl rfl) (.t rfl) rfl <|
          q_int (.t rfl rfl) (.u rfl id) (.c rfl) rfl rfl <|
          q_move (.t rfl rfl) (.u rfl id) rfl <|
          q_move (.f rfl rfl) (.t rfl) rfl <|
          q_move (.f rfl rfl) (.t rfl) rfl <|
          q_int (.f rfl rfl) (.u rfl id) (.u rfl id) rfl rfl <|
          q_or (.t rfl rfl) (.u rfl id) (.u rfl id) rfl <|
          q_and .n (.t rfl) (.u rfl id) rfl <|
          Lex.nil) ?_
      refine run_cond (.t rfl) rfl (fun h6 => ?_) (fun h6 => ?_)
      · try simp only [Bool.and_eq_true, Bool.or_eq_true, Bool.not_eq_true', Bool.and_eq_false_iff, Bool.or_eq_false_iff, Bool.not_eq_false', decide_eq_true_eq, decide_eq_false_iff_not, beq_iff_eq, bne_iff_ne, beq_eq_false_iff_ne, bne_eq_false_iff_eq, Bool.true_and, ne_eq, Decidable.not_not, Int.not_lt, Int.not_le, Nat.not_lt, Nat.not_le, strB_nil, strB_nil', strB_nnil, strB_nnil'] at h6
        refine run_region (q_move .n (.t rfl) rfl <|
            q_assign .n (.t rfl) rfl <|
            Lex.nil) ?_
        refine run_endB ?_
        refine run_region (q_add .n (.t rfl) (.c rfl) (fun _ => by first | omega | assumption | (simp only [List.length_append, List.length_cons, List.length_nil, List.length_replicate, put_len] at * <;> omega)) rfl <|
            q_move .n (.t rfl) rfl <|
            Lex.nil) ?_
        exact run_again (m_impl_Airway_walkTime (at' e.mine.Airways x1.2) speed, x1.2 + 1) ⟨by first | omega | assumption | (simp only [List.length_append, List.length_cons, List.length_nil, List.length_replicate, put_len] at * <;> omega), by first | omega | assumption | (simp only [List.length_append, List.length_cons, List.length_nil, List.length_replicate, put_len] at * <;> omega)⟩ (by first | omega | assumption | (simp only [List.length_append, List.length_cons, List.length_nil, List.length_replicate, put_len] at * <;> omega)) (sub_of [] ⟨rfl, rfl, rfl, rfl, rfl, rfl, rfl, rfl, trivial⟩ ⟨rfl, trivial⟩ rfl)
      · try simp only [Bool.and_eq_true, Bool.or_eq_true, Bool.not_eq_true', Bool.and_eq_false_iff, Bool.or_eq_false_iff, Bool.not_eq_false', decide_eq_true_eq, decide_eq_false_iff_not, beq_iff_eq, bne_iff_ne, beq_eq_false_iff_ne, bne_eq_false_iff_eq, Bool.true_and, ne_eq, Decidable.not_not, Int.not_lt, Int.not_le, Nat.not_lt, Nat.not_le, strB_nil, strB_nil', strB_nnil, strB_nnil'] at h6
        refine run_skip ?_
        refine run_endB ?_
        refine run_region (q_add .n (.t rfl) (.c rfl) (fun _ => by first | omega | assumption | (simp only [List.length_append, List.length_cons, List.length_nil, List.length_replicate, put_len] at * <;> omega)) rfl <|
            q_move .n (.t rfl) rfl <|
            Lex.nil) ?_
        exact run_again (x1.1, x1.2 + 1) ⟨by first | omega | assumption | (simp only [List.length_append, List.length_cons, List.length_nil, List.length_replicate, put_len] at * <;> omega), by first | omega | assumption | (simp only [List.length_append, List.length_cons, List.length_nil, List.length_replicate, put_len] at * <;> omega)⟩ (by first | omega | assumption | (simp only [List.length_append, List.length_cons, List.length_nil, List.length_replicate, put_len] at * <;> omega)) (sub_of [] ⟨rfl, rfl, rfl, rfl, rfl, rfl, rfl, rfl, trivial⟩ ⟨rfl, trivial⟩ rfl)
    · try simp only [Bool.and_eq_true, Bool.or_eq_true, Bool.not_eq_true', Bool.and_eq_false_iff, Bool.or_eq_false_iff, Bool.not_eq_false', decide_eq_true_eq, decide_eq_false_iff_not, beq_iff_eq, bne_iff_ne, beq_eq_false_iff_ne, bne_eq_false_iff_eq, Bool.true_and, ne_eq, Decidable.not_not, Int.not_lt, Int.not_le, Nat.not_lt, Nat.not_le, strB_nil, strB_nil', strB_nnil, strB_nnil'] at h5
      refine run_exit rfl ?_
      exact run_cont hk3 (x1.1, x1.2) ⟨by first | omega | assumption | (simp only [List.length_append, List.length_cons, List.length_nil, List.length_replicate, put_len] at * <;> omega), by first | omega | assumption | (simp only [List.length_append, List.length_cons, List.length_nil, List.length_replicate, put_len] at * <;> omega), by first | omega | assumption | (simp only [List.length_append, List.length_cons, List.length_nil, List.length_replicate, put_len] at * <;> omega)⟩ (sub_of [] ⟨rfl, trivial⟩ trivial rfl)

/-! ### impl_EscapeRoute_1 -/
theorem c_impl_EscapeRoute_1 (n_ : Int) (p1 : gescape) (p2 : Int) (p3 : gCrew) (p4 : List Int) (hp1 : 10 ≤ p3.Speed ∧ p3.Speed ≤ 300) (hp2 : 0 ≤ n_ ∧ n_ < p4.length) (hp3 : 0 ≤ p2 ∧ p2 < p4.length) : Con Try.prog 70 [.int .i64 n_, .rp [.int .i64 p1.mine.Junctions, .sl 7 (p1.mine.Airways.map gAirway.v), .sl 1 (p1.arrivals.map (V.int .i64)), .int .i64 p1.blocked], .rp [.int .i64 p2], .rp [.str p3.Id, .int .i64 p3.Junction, .int .i64 p3.Speed], .rp [.sl 1 (p4.map (V.int .i64))]] [] (.bool (m_impl_EscapeRoute_1 n_ p1 p2 p3 p4)) ([]) := by
  refine con_intro (out := fun r : Bool => ((.bool r : V), ([] : List (Nat × Option O)))) (r := (m_impl_EscapeRoute_1 n_ p1 p2 p3 p4)) Try.func70 rfl Try.ntmps70 rfl ?_
  refine run_factP (t := 1) 1 rfl rfl fun hl => ?_
  have l1 := hl; clear hl; simp only [List.length_map] at l1
  refine run_factP (t := 1) 2 rfl rfl fun hl => ?_
  have l2 := hl; clear hl; simp only [List.length_map] at l2
  refine run_factP (t := 4) 0 rfl rfl fun hl => ?_
  have l3 := hl; clear hl; simp only [List.length_map] at l3
  refine run_seq ?_
  refine run_region (q_assign .n (.c rfl) rfl <|
      Lex.nil) ?_
  refine run_seq ?_
  refine run_region (q_ldN_ro .n (.t rfl) ag_78 rfl rfl rfl <|
      q_move .n (.t rfl) rfl <|
      q_ld1_ro .n (.t rfl) rfl ic_2 rfl <|
      q_fld_ro .n (.t rfl) fo_37_2 rfl <|
      q_ld1_ro .n (.t rfl) rfl ic_2 rfl <|
      q_call0 (full := false) .n .f en_71 (.cons (.t rfl) (.cons (.t rfl) (.cons (.t rfl) (.cons (.t rfl) .nil)))) (.cons (.sts rfl) (.cons (.b (.a (.same rfl))) (.cons (.b (.a (.same rfl))) (.cons (.b (.a (.same rfl))) .nil)))) (fun hg => c_impl_escape_between p1 n_ p2 p3.Speed (by first | omega | assumption | (simp only [List.length_append, List.length_cons, List.length_nil, List.length_replicate, put_len] at * <;> omega))) rfl (fun h => Bool.noConfusion h) rfl <|
      q_move .n (.t rfl) rfl <|
      q_ext .n (.t rfl) rfl rfl rfl <|
      q_ext .n (.t rfl) rfl rfl rfl <|
      q_assign .n (.t rfl) rfl <|
      q_assign .n (.t rfl) rfl <|
      Lex.nil) ?_
  refine run_seq ?_
  refine run_draw fmo (q_move .n (.t rfl) rfl <|
      q_move .n (.t rfl) rfl <|
      q_ld1_ro (.t rfl rfl) (.t rfl) rfl ic_25 rfl <|
      q_move (.t rfl rfl) (.t rfl) rfl <|
      q_idx_rm (.t rfl rfl) (.u rfl id) (.u rfl id) sl_25 (fun hg => by simp only [Bool.and_eq_true, Bool.or_eq_true, Bool.not_eq_true', Bool.and_eq_false_iff, Bool.or_eq_false_iff, Bool.not_eq_false', decide_eq_true_eq, decide_eq_false_iff_not, beq_iff_eq, bne_iff_ne, beq_eq_false_iff_ne, bne_eq_false_iff_eq, Bool.true_and, ne_eq, Decidable.not_not, Int.not_lt, Int.not_le, Nat.not_lt, Nat.not_le, strB_nil, strB_nil', strB_nnil, strB_nnil'] at hg; first | omega | assumption | (simp only [List.length_append, List.length_cons, List.length_nil, List.length_replicate, put_len] at * <;> omega)) rfl <|
      q_ld1_ro (.t rfl rfl) (.u rfl id) rfl ic_2 rfl <|
      q_int (.t rfl rfl) (.u rfl id) (.c rfl) rfl rfl <|
      q_and .n (.t rfl) (.u rfl id) rfl <|
      q_move .n (.t rfl) rfl <|
      q_ld1_ro (.t rfl rfl) (.t rfl) rfl ic_25 rfl <|
      q_move (.t rfl rfl) (.t rfl) rfl <|
      q_idx_rm (.t rfl rfl) (.u rfl id) (.u rfl id) sl_25 (fun hg => by simp only [Bool.and_eq_true, Bool.or_eq_true, Bool.not_eq_true', Bool.and_eq_false_iff, Bool.or_eq_false_iff, Bool.not_eq_false', decide_eq_true_eq, decide_eq_false_iff_not, beq_iff_eq, bne_iff_ne, beq_eq_false_iff_ne, bne_eq_false_iff_eq, Bool.true_and, ne_eq, Decidable.not_not, Int.not_lt, Int.not_le, Nat.not_lt, Nat.not_le, strB_nil, strB_nil', strB_nnil, strB_nnil'] at hg; first | omega | assumption | (simp only [List.length_append, List.length_cons, List.length_nil, List.length_replicate, put_len] at * <;> omega)) rfl <|
      q_ld1_ro (.t rfl rfl) (.u rfl id) rfl ic_2 rfl <|
      q_move (.t rfl rfl) (.t rfl) rfl <|
      q_int (.t rfl rfl) (.u rfl id) (.u rfl id) rfl rfl <|
      q_ld1_ro (.t rfl rfl) (.t rfl) rfl ic_25 rfl <|
      q_ld1_ro (.t rfl rfl) (.t rfl) rfl ic_2 rfl <|
      q_idx_rm (.t rfl rfl) (.u rfl id) (.u rfl id) sl_25 (fun hg => by simp only [Bool.and_eq_true, Bool.or_eq_true, Bool.not_eq_true', Bool.and_eq_false_iff, Bool.or_eq_false_iff, Bool.not_eq_false', decide_eq_true_eq, decide_eq_false_iff_not, beq_iff_eq, bne_iff_ne, beq_eq_false_iff_ne, bne_eq_false_iff_eq, Bool.true_and, ne_eq, Decidable.not_not, Int.not_lt, Int.not_le, Nat.not_lt, Nat.not_le, strB_nil, strB_nil', strB_nnil, strB_nnil'] at hg; first | omega | assumption | (simp only [List.length_append, List.length_cons, List.length_nil, List.length_replicate, put_len] at * <;> omega)) rfl <|
      q_ld1_ro (.t rfl rfl) (.u rfl id) rfl ic_2 rfl <|
      q_int (.t rfl rfl) (.u rfl id) (.u rfl id) rfl rfl <|
      q_and .n (.t rfl) (.u rfl id) rfl <|
      q_assign .n (.t rfl) rfl <|
      Lex.nil) (by kernel_rfl) ?_
  exact run_ret [] (.cons (.t rfl rfl) .nil) rfl trivial rfl

/-! ### slices_Reverse_int64 -/
theorem c_slices_Reverse_int64 (s_ : List Int) : Con Try.prog 72 [.os 0 s_.length] [(0, some (.row 2 1 (s_.map (V.int .i64))))] (.tup []) ([(0, some (.row 2 1 ((m_slices_Reverse_int64 s_).map (V.int .i64))))]) := by
  refine con_intro (out := fun r : (List Int) => ((.tup [] : V), ([(0, some (.row 2 1 (r.map (V.int .i64))))] : List (Nat × Option O)))) (r := (m_slices_Reverse_int64 s_)) Try.func72 rfl Try.ntmps72 rfl ?_
  refine run_factH (l := 0) rfl fun hl => ?_
  have l1 := hl; clear hl; simp only [List.length_map] at l1
  refine run_seq ?_
  refine run_region (q_move .n (.t rfl) rfl <|
      q_len .n (.t rfl) rfl rfl ss_25 rfl <|
      q_sub .n (.t rfl) (.c rfl) (fun _ => by first | omega | assumption | (simp only [List.length_append, List.length_cons, List.length_nil, List.length_replicate, put_len] at * <;> omega)) rfl <|
      q_assign .n (.c rfl) rfl <|
      q_assign .n (.t rfl) rfl <|
      Lex.nil) ?_
  refine run_block ?_
  refine run_LOOP (m_slices_Reverse_int64_b1 s_) _ _ _ rfl (fun (x1 : (List Int) × Int × Int) => 0 ≤ x1.2.1 ∧ x1.2.2 ≤ (s_.length : Int) - 1 ∧ x1.1.length = s_.length ∧ x1.1.length = s_.length ∧ 0 ≤ x1.2.1 ∧ x1.2.1 + x1.2.2 = (s_.length : Int) - 1 ∧ x1.2.1 ≤ x1.2.2 + 1) (fun x1 => 0 ≤ x1.2.1 ∧ x1.2.2 ≤ (s_.length : Int) - 1 ∧ x1.1.length = s_.length ∧ x1.1.length = s_.length ∧ 0 ≤ x1.2.1 ∧ x1.2.1 + x1.2.2 = (s_.length : Int) - 1 ∧ x1.2.1 ≤ x1.2.2 + 1) (fun x1 => (x1.2.2 + 1 - x1.2.1 : Int).toNat) (fun x1 => ⟨[(0, some (true, .os 0 x1.1.length)), (2, some (true, .int .i64 x1.2.1)), (3, some (true, .int .i64 x1.2.2))], [(0, some (.row 2 1 (x1.1.map (V.int .i64))))]⟩) (fun x1 => ⟨[], [(0, some (.row 2 1 (x1.1.map (V.int .i64))))]⟩) ⟨by first | omega | assumption | (simp only [List.length_append, List.length_cons, List.length_nil, List.length_replicate, put_len] at * <;> omega), by first | omega | assumption | (simp only [List.length_append, List.length_cons, List.length_nil, List.length_replicate, put_len] at * <;> omega), by first | omega | assumption | (simp only [List.length_append, List.length_cons, List.length_nil, List.length_replicate, put_len] at * <;> omega), by first | omega | assumption | (simp only [List.length_append, List.length_cons, List.length_nil, List.length_replicate, put_len] at * <;> omega), by first | omega | assumption | (simp only [List.length_append, List.length_cons, List.length_nil, List.length_replicate, put_len] at * <;> omega), by first | omega | assumption | (simp only [List.length_append, List.length_cons, List.length_nil, List.length_replicate, put_len] at * <;> omega), by first | omega | assumption | (simp only [List.length_append, List.length_cons, List.length_nil, List.length_replicate, put_len] at * <;> omega)⟩ (by first | omega | assumption | (simp only [List.length_append, List.length_cons, List.length_nil, List.length_replicate, put_len] at * <;> omega)) (sub_of [] ⟨rfl, rfl, rfl, trivial⟩ ⟨rfl, trivial⟩ rfl) ?_ ?_
  · intro x1 i5
    obtain ⟨e6, e7, e8, e9, e10, e11, e12⟩ := i5
    try dsimp only at *
    exact run_end [] .nil rfl ⟨rfl, trivial⟩ rfl
  · intro rec1 k1 hk2 x1 i3
    obtain ⟨e13, e14, e15, e16, e17, e18, e19⟩ := i3
    try dsimp only at *
    refine run_seq ?_
    refine run_seq ?_
    refine run_region (q_move .n (.t rfl) rfl <|
        q_move .n (.t rfl) rfl <|
        q_int .n (.t rfl) (.t rfl) rfl rfl <|
        Lex.nil) ?_
    refine run_cond (.t rfl) rfl (fun h4 => ?_) (fun h4 => ?_)
    · try simp only [Bool.and_eq_true, Bool.or_eq_true, Bool.not_eq_true', Bool.and_eq_false_iff, Bool.or_eq_false_iff, Bool.not_eq_false', decide_eq_true_eq, decide_eq_false_iff_not, beq_iff_eq, bne_iff_ne, beq_eq_false_iff_ne, bne_eq_false_iff_eq, Bool.true_and, ne_eq, Decidable.not_not, Int.not_lt, Int.not_le, Nat.not_lt, Nat.not_le, strB_nil, strB_nil', strB_nnil, strB_nnil'] at h4
      refine run_skip ?_
      refine run_seq ?_
      refine run_block ?_
      refine run_draw fmo (q_move .n (.t rfl) rfl <|
          q_move .n (.t rfl) rfl <|
          q_move .n (.t rfl) rfl <|
          q_move .n (.t rfl) rfl <|
          q_move .n (.t rfl) rfl <|
          q_move .n (.t rfl) rfl <|
          q_idx_ow .n (.t rfl) (.t rfl) sl_25 (fun _ => by first | omega | assumption | (simp only [List.length_append, List.length_cons, List.length_nil, List.length_replicate, put_len] at * <;> omega)) rfl <|
          q_ld1_row .n (.t rfl) rfl (fun _ => by first | omega | assumption | (simp only [List.length_append, List.length_cons, List.length_nil, List.length_replicate, put_len] at * <;> omega)) rfl rfl rfl ic_2 rfl <|
          q_move .n (.t rfl) rfl <|
          q_move .n (.t rfl) rfl <|
          q_idx_ow .n (.t rfl) (.t rfl) sl_25 (fun _ => by first | omega | assumption | (simp only [List.length_append, List.length_cons, List.length_nil, List.length_replicate, put_len] at * <;> omega)) rfl <|
          q_ld1_row .n (.t rfl) rfl (fun _ => by first | omega | assumption | (simp only [List.length_append, List.length_cons, List.length_nil, List.length_replicate, put_len] at * <;> omega)) rfl rfl rfl ic_2 rfl <|
          q_idx_ow .n (.t rfl) (.t rfl) sl_25 (fun _ => by first | omega | assumption | (simp only [List.length_append, List.length_cons, List.length_nil, List.length_replicate, put_len] at * <;> omega)) rfl <|
          q_st_rowm (at' x1.1 x1.2.2) .n rfl (.t rfl) (.t rfl) rfl ts_2 (by first | omega | assumption | (simp only [List.length_append, List.length_cons, List.length_nil, List.length_replicate, put_len] at * <;> omega)) rfl rfl <|
          q_idx_ow .n (.t rfl) (.t rfl) sl_25 (fun _ => by first | omega | assumption | (simp only [List.length_append, List.length_cons, List.length_nil, List.length_replicate, put_len] at * <;> omega)) rfl <|
          q_st_rowm (at' x1.1 x1.2.1) .n rfl (.t rfl) (.t rfl) rfl ts_2 (by first | omega | assumption | (simp only [List.length_append, List.length_cons, List.length_nil, List.length_replicate, put_len] at * <;> omega)) rfl rfl <|
          Lex.nil) (by kernel_rfl) ?_
      refine run_endB ?_
      refine run_region (q_move .n (.t rfl) rfl <|
          q_add .n (.t rfl) (.c rfl) (fun _ => by first | omega | assumption | (simp only [List.length_append, List.length_cons, List.length_nil, List.length_replicate, put_len] at * <;> omega)) rfl <|
          q_move .n (.t rfl) rfl <|
          q_sub .n (.t rfl) (.c rfl) (fun _ => by first | omega | assumption | (simp only [List.length_append, List.length_cons, List.length_nil, List.length_replicate, put_len] at * <;> omega)) rfl <|
          q_assign .n (.t rfl) rfl <|
          q_assign .n (.t rfl) rfl <|
          Lex.nil) ?_
      exact run_again (put' (put' x1.1 x1.2.1 (at' x1.1 x1.2.2)) x1.2.2 (at' x1.1 x1.2.1), x1.2.1 + 1, x1.2.2 - 1) ⟨by first | omega | assumption | (simp only [List.length_append, List.length_cons, List.length_nil, List.length_replicate, put_len] at * <;> omega), by first | omega | assumption | (simp only [List.length_append, List.length_cons, List.length_nil, List.length_replicate, put_len] at * <;> omega), by first | omega | assumption | (simp only [List.length_append, List.length_cons, List.length_nil, List.length_replicate, put_len] at * <;> omega), by first | omega | assumption | (simp only [List.length_append, List.length_cons, List.length_nil, List.length_replicate, put_len] at * <;> omega), by first | omega | assumption | (simp only [List.length_append, List.length_cons, List.length_nil, List.length_replicate, put_len] at * <;> omega), by first | omega | assumption | (simp only [List.length_append, List.length_cons, List.length_nil, List.length_replicate, put_len] at * <;> omega), by first | omega | assumption | (simp only [List.length_append, List.length_cons, List.length_nil, List.length_replicate, put_len] at * <;> omega)⟩ (by first | omega | assumption | (simp only [List.length_append, List.length_cons, List.length_nil, List.length_replicate, put_len] at * <;> omega)) (sub_of [] ⟨os_len rfl (by first | (simp only [put_len]; done) | (first | omega | assumption | (simp only [List.length_append, List.length_cons, List.length_nil, List.length_replicate, put_len] at * <;> omega))), rfl, rfl, trivial⟩ ⟨rfl, trivial⟩ rfl)
    · try simp only [Bool.and_eq_true, Bool.or_eq_true, Bool.not_eq_true', Bool.and_eq_false_iff, Bool.or_eq_false_iff, Bool.not_eq_false', decide_eq_true_eq, decide_eq_false_iff_not, beq_iff_eq, bne_iff_ne, beq_eq_false_iff_ne, bne_eq_false_iff_eq, Bool.true_and, ne_eq, Decidable.not_not, Int.not_lt, Int.not_le, Nat.not_lt, Nat.not_le, strB_nil, strB_nil', strB_nnil, strB_nnil'] at h4
      refine run_exit rfl ?_
      exact run_cont hk2 (x1.1, x1.2.1, x1.2.2) ⟨by first | omega | assumption | (simp only [List.length_append, List.length_cons, List.length_nil, List.length_replicate, put_len] at * <;> omega), by first | omega | assumption | (simp only [List.length_append, List.length_cons, List.length_nil, List.length_replicate, put_len] at * <;> omega), by first | omega | assumption | (simp only [List.length_append, List.length_cons, List.length_nil, List.length_replicate, put_len] at * <;> omega), by first | omega | assumption | (simp only [List.length_append, List.length_cons, List.length_nil, List.length_replicate, put_len] at * <;> omega), by first | omega | assumption | (simp only [List.length_append, List.length_cons, List.length_nil, List.length_replicate, put_len] at * <;> omega), by first | omega | assumption | (simp only [List.length_append, List.length_cons, List.length_nil, List.length_replicate, put_len] at * <;> omega), by first | omega | assumption | (simp only [List.length_append, List.length_cons, List.length_nil, List.length_replicate, put_len] at * <;> omega)⟩ (sub_of [] trivial ⟨rfl, trivial⟩ rfl)


end Go.Proofs.Ythcboapohklfnaa
