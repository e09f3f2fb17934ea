/-
  THE WALKS: each Go function computes its model. Conditions: as each theorem states them (hp1, hp2 ..).
-/
import Derived.Test.YtbeppnhplglocaaExactSpreadChecksPlain8
import Derived.Test.YtbeppnhplglocaaProg
set_option linter.unusedVariables false
set_option linter.unusedSimpArgs false
set_option linter.unusedSectionVars false
set_option linter.unnecessarySimpa false
namespace Go.Proofs.Ytbeppnhplglocaa
open Go Go.RowKit Go.Proofs Go.Proofs.Ytbeppnhplglocaa.E
theorem fo_77_0 : fldOff Try.prog 77 0 = some 0 := by kernel_rfl
theorem ic_9 : isCell Try.prog 9 = true := by kernel_rfl
theorem st_9 : isStr Try.prog 9 = true := by kernel_rfl
theorem ss_22 : (slEl Try.prog 22).isSome = true := by kernel_rfl
theorem sl_22 : slEl Try.prog 22 = some (77, 3) := by kernel_rfl
theorem ag_77 : aggSz Try.prog 77 = some 3 := by kernel_rfl
theorem en_42 : entB Try.prog 42 = true := by kernel_rfl
theorem en_131 : entB Try.prog 131 = true := by kernel_rfl
theorem en_132 : entB Try.prog 132 = true := by kernel_rfl
theorem fo_83_0 : fldOff Try.prog 83 0 = some 0 := by kernel_rfl
theorem en_111 : entB Try.prog 111 = true := by kernel_rfl
theorem fo_83_1 : fldOff Try.prog 83 1 = some 1 := by kernel_rfl
theorem ic_2 : isCell Try.prog 2 = true := by kernel_rfl
theorem en_45 : entB Try.prog 45 = true := by kernel_rfl
theorem fo_83_2 : fldOff Try.prog 83 2 = some 2 := by kernel_rfl
theorem ss_27 : (slEl Try.prog 27).isSome = true := by kernel_rfl
theorem sl_27 : slEl Try.prog 27 = some (83, 3) := by kernel_rfl
theorem en_93 : entB Try.prog 93 = true := by kernel_rfl
theorem fmo : Try.prog.follows .mixedOrders = true := by kernel_rfl
theorem si_24 : slInfo Try.prog 24 = some (2, 1, 8) := by kernel_rfl
theorem zv_2 : zeroV Try.prog 2 = some (.int .i64 0) := by kernel_rfl
theorem sl_24 : slEl Try.prog 24 = some (2, 1) := by kernel_rfl
theorem en_94 : entB Try.prog 94 = true := by kernel_rfl
theorem ts_2 : tySz Try.prog 2 = some 1 := by kernel_rfl
theorem en_43 : entB Try.prog 43 = true := by kernel_rfl
theorem en_44 : entB Try.prog 44 = true := by kernel_rfl
theorem en_46 : entB Try.prog 46 = true := by kernel_rfl
theorem zv_83 : zeroV Try.prog 83 = some (.st [.str ([] : List UInt8), .int .i64 0, .int .i64 0]) := by kernel_rfl
theorem ts_9 : tySz Try.prog 9 = some 1 := by kernel_rfl
theorem fo_77_1 : fldOff Try.prog 77 1 = some 1 := by kernel_rfl
theorem fo_77_2 : fldOff Try.prog 77 2 = some 2 := by kernel_rfl
theorem ag_83 : aggSz Try.prog 83 = some 3 := by kernel_rfl
theorem ts_83 : tySz Try.prog 83 = some 3 := by kernel_rfl
theorem si_27 : slInfo Try.prog 27 = some (83, 3, 32) := by kernel_rfl
theorem en_47 : entB Try.prog 47 = true := by kernel_rfl
theorem en_50 : entB Try.prog 50 = true := by kernel_rfl
theorem en_128 : entB Try.prog 128 = true := by kernel_rfl
theorem en_106 : entB Try.prog 106 = true := by kernel_rfl
theorem en_49 : entB Try.prog 49 = true := by kernel_rfl
theorem en_95 : entB Try.prog 95 = true := by kernel_rfl
theorem sl_140 : slEl Try.prog 140 = some (3, 1) := by kernel_rfl
theorem ic_3 : isCell Try.prog 3 = true := by kernel_rfl
theorem ts_3 : tySz Try.prog 3 = some 1 := by kernel_rfl
theorem en_140 : entB Try.prog 140 = true := by kernel_rfl
theorem ss_140 : (slEl Try.prog 140).isSome = true := by kernel_rfl
theorem en_122 : entB Try.prog 122 = true := by kernel_rfl
theorem en_123 : entB Try.prog 123 = true := by kernel_rfl
theorem ic_27 : isCell Try.prog 27 = true := by kernel_rfl
theorem en_99 : entB Try.prog 99 = true := by kernel_rfl
theorem en_98 : entB Try.prog 98 = true := by kernel_rfl
theorem si_140 : slInfo Try.prog 140 = some (3, 1, 8) := by kernel_rfl
theorem zv_3 : zeroV Try.prog 3 = some (.int .i64 0) := by kernel_rfl
theorem en_97 : entB Try.prog 97 = true := by kernel_rfl
theorem en_96 : entB Try.prog 96 = true := by kernel_rfl
theorem en_48 : entB Try.prog 48 = true := by kernel_rfl
theorem en_51 : entB Try.prog 51 = true := by kernel_rfl
theorem ss_24 : (slEl Try.prog 24).isSome = true := by kernel_rfl
theorem en_52 : entB Try.prog 52 = true := by kernel_rfl
theorem cv_3_5 : cvInt Try.prog 3 5 = some .u8 := by kernel_rfl
theorem si_145 : slInfo Try.prog 145 = some (5, 1, 1) := by kernel_rfl
theorem zv_5 : zeroV Try.prog 5 = some (.int .u8 0) := by kernel_rfl
theorem bs_145_9 : b2sOk Try.prog 145 9 = true := by kernel_rfl
theorem en_53 : entB Try.prog 53 = true := by kernel_rfl
theorem en_7 : entB Try.prog 7 = true := by kernel_rfl
theorem en_9 : entB Try.prog 9 = true := by kernel_rfl
theorem en_8 : entB Try.prog 8 = true := by kernel_rfl
theorem en_10 : entB Try.prog 10 = true := by kernel_rfl
theorem en_11 : entB Try.prog 11 = true := by kernel_rfl
theorem en_12 : entB Try.prog 12 = true := by kernel_rfl
theorem en_13 : entB Try.prog 13 = true := by kernel_rfl
theorem en_14 : entB Try.prog 14 = true := by kernel_rfl
theorem en_15 : entB Try.prog 15 = true := by kernel_rfl

/-! ### laws_szCheck -/
theorem c_laws_szCheck (a : gCheck) (left : Int) : Con Try.prog 42 [.st [.str a.Id, .int .i64 a.Every, .int .i64 a.Last], .int .i64 left] [] (.int .i64 (m_laws_szCheck a left)) ([]) := by
  refine con_intro (out := fun r : Int => ((.int .i64 r : V), ([] : List (Nat × Option O)))) (r := (m_laws_szCheck a left)) Try.func42 rfl Try.ntmps42 rfl ?_
  refine run_seq ?_
  refine run_region (q_box (l := 200) .n rfl (.t rfl) rfl rfl rfl rfl <|
      q_assign .n (.c rfl) rfl <|
      Lex.nil) ?_
  refine run_seq ?_
  refine run_region (q_move .n (.t rfl) rfl <|
      q_fld_ow .n (.t rfl) fo_77_0 rfl <|
      q_ld1_ow .n (.t rfl) rfl (.inr rfl) (fun _ => rfl) rfl ic_9 rfl <|
      q_len .n (.t rfl) rfl rfl st_9 rfl <|
      q_int .n (.t rfl) (.t rfl) rfl rfl <|
      q_assign .n (.t rfl) rfl <|
      Lex.nil) ?_
  refine run_seq ?_
  refine run_seq ?_
  refine run_region (q_move .n (.t rfl) rfl <|
      q_int .n (.t rfl) (.c rfl) rfl rfl <|
      Lex.nil) ?_
  refine run_cond (.t rfl) rfl (fun h1 => ?_) (fun h1 => ?_)
  · try simp only [Bool.and_eq_true, Bool.or_eq_true, Bool.not_eq_true', Bool.and_eq_false_iff, Bool.or_eq_false_iff, Bool.not_eq_false', decide_eq_true_eq, decide_eq_false_iff_not, beq_iff_eq, bne_iff_ne, beq_eq_false_iff_ne, bne_eq_false_iff_eq, Bool.true_and, ne_eq, Decidable.not_not, Int.not_lt, Int.not_le, Nat.not_lt, Nat.not_le, strB_nil, strB_nil', strB_nnil, strB_nnil'] at h1
    refine run_seq ?_
    refine run_region (q_assign .n (.c rfl) rfl <|
        Lex.nil) ?_
    exact run_ret [] (.cons (.t rfl rfl) .nil) rfl trivial rfl
  · try simp only [Bool.and_eq_true, Bool.or_eq_true, Bool.not_eq_true', Bool.and_eq_false_iff, Bool.or_eq_false_iff, Bool.not_eq_false', decide_eq_true_eq, decide_eq_false_iff_not, beq_iff_eq, bne_iff_ne, beq_eq_false_iff_ne, bne_eq_false_iff_eq, Bool.true_and, ne_eq, Decidable.not_not, Int.not_lt, Int.not_le, Nat.not_lt, Nat.not_le, strB_nil, strB_nil', strB_nnil, strB_nnil'] at h1
    refine run_skip ?_
    refine run_seq ?_
    refine run_region (q_move .n (.t rfl) rfl <|
        q_assign .n (.t rfl) rfl <|
        Lex.nil) ?_
    exact run_ret [] (.cons (.t rfl rfl) .nil) rfl trivial rfl

/-! ### laws_szCheckS -/
theorem c_laws_szCheckS (a : List gCheck) (left : Int) : Con Try.prog 7 [.sl 3 (a.map gCheck.v), .int .i64 left] [] (.int .i64 (m_laws_szCheckS a left)) ([]) := by
  refine con_intro (out := fun r : Int => ((.int .i64 r : V), ([] : List (Nat × Option O)))) (r := (m_laws_szCheckS a left)) Try.func7 rfl Try.ntmps7 rfl ?_
  refine run_fact (t := 0) rfl fun hl => ?_
  have l1 := hl; clear hl; simp only [List.length_map] at l1
  refine run_seq ?_
  refine run_region (q_assign .n (.c rfl) rfl <|
      Lex.nil) ?_
  refine run_seq ?_
  refine run_region (q_move .n (.t rfl) rfl <|
      q_move .n (.t rfl) rfl <|
      q_len .n (.t rfl) rfl len_map ss_22 rfl <|
      q_int .n (.t rfl) (.t rfl) rfl rfl <|
      q_assign .n (.t rfl) rfl <|
      Lex.nil) ?_
  refine run_seq ?_
  refine run_seq ?_
  refine run_region (q_move .n (.t rfl) rfl <|
      q_int .n (.t rfl) (.c rfl) rfl rfl <|
      Lex.nil) ?_
  refine run_cond (.t rfl) rfl (fun h2 => ?_) (fun h2 => ?_)
  · try simp only [Bool.and_eq_true, Bool.or_eq_true, Bool.not_eq_true', Bool.and_eq_false_iff, Bool.or_eq_false_iff, Bool.not_eq_false', decide_eq_true_eq, decide_eq_false_iff_not, beq_iff_eq, bne_iff_ne, beq_eq_false_iff_ne, bne_eq_false_iff_eq, Bool.true_and, ne_eq, Decidable.not_not, Int.not_lt, Int.not_le, Nat.not_lt, Nat.not_le, strB_nil, strB_nil', strB_nnil, strB_nnil'] at h2
    refine run_seq ?_
    refine run_region (q_assign .n (.c rfl) rfl <|
        Lex.nil) ?_
    exact run_ret [] (.cons (.t rfl rfl) .nil) rfl trivial rfl
  · try simp only [Bool.and_eq_true, Bool.or_eq_true, Bool.not_eq_true', Bool.and_eq_false_iff, Bool.or_eq_false_iff, Bool.not_eq_false', decide_eq_true_eq, decide_eq_false_iff_not, beq_iff_eq, bne_iff_ne, beq_eq_false_iff_ne, bne_eq_false_iff_eq, Bool.true_and, ne_eq, Decidable.not_not, Int.not_lt, Int.not_le, Nat.not_lt, Nat.not_le, strB_nil, strB_nil', strB_nnil, strB_nnil'] at h2
    refine run_skip ?_
    refine run_seq ?_
    refine run_seq ?_
    refine run_region (q_assign .n (.c rfl) rfl <|
        Lex.nil) ?_
    refine run_block ?_
    refine run_LOOP (m_laws_szCheckS_b1 a left) _ _ _ rfl (fun (x1 : Int × Int) => 0 ≤ x1.2 ∧ x1.2 ≤ (a.length : Int)) (fun x1 => 0 ≤ x1.2 ∧ x1.2 ≤ (a.length : Int) ∧ (a.length : Int) ≤ x1.2) (fun x1 => ((a.length : Int) - x1.2 : Int).toNat) (fun x1 => ⟨[(0, some (true, .sl 3 (a.map gCheck.v))), (1, some (true, .int .i64 x1.1)), (5, some (true, .int .i64 x1.2))], []⟩) (fun x1 => ⟨[(1, some (true, .int .i64 x1.1))], []⟩) ⟨by first | omega | assumption | (simp only [List.length_append, List.length_cons, List.length_nil, List.length_replicate, put_len] at * <;> omega), by first | omega | assumption | (simp only [List.length_append, List.length_cons, List.length_nil, List.length_replicate, put_len] at * <;> omega)⟩ (by first | omega | assumption | (simp only [List.length_append, List.length_cons, List.length_nil, List.length_replicate, put_len] at * <;> omega)) (sub_of [] ⟨rfl, rfl, rfl, trivial⟩ trivial rfl) ?_ ?_
    · intro x1 i7
      obtain ⟨e8, e9, e10⟩ := i7
      try dsimp only at *
      refine run_seq ?_
      refine run_region (q_move .n (.t rfl) rfl <|
          q_assign .n (.t rfl) rfl <|
          Lex.nil) ?_
      exact run_ret [] (.cons (.t rfl rfl) .nil) rfl trivial rfl
    · intro rec1 k1 hk3 x1 i4
      obtain ⟨e11, e12⟩ := i4
      try dsimp only at *
      refine run_seq ?_
      refine run_seq ?_
      refine run_region (q_move .n (.t rfl) rfl <|
          q_move .n (.t rfl) rfl <|
          q_len .n (.t rfl) rfl len_map ss_22 rfl <|
          q_int .n (.t rfl) (.t rfl) rfl rfl <|
          Lex.nil) ?_
      refine run_cond (.t rfl) rfl (fun h5 => ?_) (fun h5 => ?_)
      · try simp only [Bool.and_eq_true, Bool.or_eq_true, Bool.not_eq_true', Bool.and_eq_false_iff, Bool.or_eq_false_iff, Bool.not_eq_false', decide_eq_true_eq, decide_eq_false_iff_not, beq_iff_eq, bne_iff_ne, beq_eq_false_iff_ne, bne_eq_false_iff_eq, Bool.true_and, ne_eq, Decidable.not_not, Int.not_lt, Int.not_le, Nat.not_lt, Nat.not_le, strB_nil, strB_nil', strB_nnil, strB_nnil'] at h5
        refine run_skip ?_
        refine run_seq ?_
        refine run_block ?_
        refine run_seq ?_
        refine run_region (q_move .n (.t rfl) rfl <|
            q_move .n (.t rfl) rfl <|
            q_idx_rm .n (.t rfl) (.t rfl) sl_22 (fun _ => by first | omega | assumption | (simp only [List.length_append, List.length_cons, List.length_nil, List.length_replicate, put_len] at * <;> omega)) rfl <|
            q_ldN_ro .n (.t rfl) ag_77 rfl rfl rfl <|
            q_move .n (.t rfl) rfl <|
            q_call0 (full := false) .n .f en_42 (.cons (.t rfl) (.cons (.t rfl) .nil)) (.cons (.sts rfl) (.cons (.b (.a (.same rfl))) .nil)) (fun hg => c_laws_szCheck (at' a x1.2) x1.1) rfl (fun h => Bool.noConfusion h) rfl <|
            q_assign .n (.t rfl) rfl <|
            Lex.nil) ?_
        refine run_seq ?_
        refine run_region (q_move .n (.t rfl) rfl <|
            q_int .n (.t rfl) (.c rfl) rfl rfl <|
            Lex.nil) ?_
        refine run_cond (.t rfl) rfl (fun h6 => ?_) (fun h6 => ?_)
        · try simp only [Bool.and_eq_true, Bool.or_eq_true, Bool.not_eq_true', Bool.and_eq_false_iff, Bool.or_eq_false_iff, Bool.not_eq_false', decide_eq_true_eq, decide_eq_false_iff_not, beq_iff_eq, bne_iff_ne, beq_eq_false_iff_ne, bne_eq_false_iff_eq, Bool.true_and, ne_eq, Decidable.not_not, Int.not_lt, Int.not_le, Nat.not_lt, Nat.not_le, strB_nil, strB_nil', strB_nnil, strB_nnil'] at h6
          try have hf0h6 := szCheck_impA (by assumption) (by omega) (by omega) h6
          try have hf1h6 := szCheck_impA (by assumption) (by omega) (by omega) h6.1
          try have hf2h6 := szCheck_impA (by assumption) (by omega) (by omega) h6.2
          try have hf3h6 := szCheck_impA (by assumption) (by omega) (by omega) h6.1.1
          try have hf4h6 := szCheck_impA (by assumption) (by omega) (by omega) h6.1.2
          try have hf5h6 := szCheck_impA (by assumption) (by omega) (by omega) h6.2.1
          try have hf6h6 := szCheck_impA (by assumption) (by omega) (by omega) h6.2.2
          try have hf7h6 := szCheck_impB (by assumption) (by omega) (by omega) h6
          try have hf8h6 := szCheck_impB (by assumption) (by omega) (by omega) h6.1
          try have hf9h6 := szCheck_impB (by assumption) (by omega) (by omega) h6.2
          try have hf10h6 := szCheck_impB (by assumption) (by omega) (by omega) h6.1.1
          try have hf11h6 := szCheck_impB (by assumption) (by omega) (by omega) h6.1.2
          try have hf12h6 := szCheck_impB (by assumption) (by omega) (by omega) h6.2.1
          try have hf13h6 := szCheck_impB (by assumption) (by omega) (by omega) h6.2.2
          refine run_seq ?_
          refine run_region (q_assign .n (.c rfl) rfl <|
              Lex.nil) ?_
          exact run_ret [] (.cons (.t rfl rfl) .nil) rfl trivial rfl
        · try simp only [Bool.and_eq_true, Bool.or_eq_true, Bool.not_eq_true', Bool.and_eq_false_iff, Bool.or_eq_false_iff, Bool.not_eq_false', decide_eq_true_eq, decide_eq_false_iff_not, beq_iff_eq, bne_iff_ne, beq_eq_false_iff_ne, bne_eq_false_iff_eq, Bool.true_and, ne_eq, Decidable.not_not, Int.not_lt, Int.not_le, Nat.not_lt, Nat.not_le, strB_nil, strB_nil', strB_nnil, strB_nnil'] at h6
          try have hf0h6 := szCheck_impA (by assumption) (by omega) (by omega) h6
          try have hf1h6 := szCheck_impA (by assumption) (by omega) (by omega) h6.1
          try have hf2h6 := szCheck_impA (by assumption) (by omega) (by omega) h6.2
          try have hf3h6 := szCheck_impA (by assumption) (by omega) (by omega) h6.1.1
          try have hf4h6 := szCheck_impA (by assumption) (by omega) (by omega) h6.1.2
          try have hf5h6 := szCheck_impA (by assumption) (by omega) (by omega) h6.2.1
          try have hf6h6 := szCheck_impA (by assumption) (by omega) (by omega) h6.2.2
          try have hf7h6 := szCheck_impB (by assumption) (by omega) (by omega) h6
          try have hf8h6 := szCheck_impB (by assumption) (by omega) (by omega) h6.1
          try have hf9h6 := szCheck_impB (by assumption) (by omega) (by omega) h6.2
          try have hf10h6 := szCheck_impB (by assumption) (by omega) (by omega) h6.1.1
          try have hf11h6 := szCheck_impB (by assumption) (by omega) (by omega) h6.1.2
          try have hf12h6 := szCheck_impB (by assumption) (by omega) (by omega) h6.2.1
          try have hf13h6 := szCheck_impB (by assumption) (by omega) (by omega) h6.2.2
          refine run_skip ?_
          refine run_endB ?_
          refine run_region (q_move .n (.t rfl) rfl <|
              q_add .n (.t rfl) (.c rfl) (fun _ => by first | omega | assumption | (simp only [List.length_append, List.length_cons, List.length_nil, List.length_replicate, put_len] at * <;> omega)) rfl <|
              q_assign .n (.t rfl) rfl <|
              Lex.nil) ?_
          exact run_again (m_laws_szCheck (at' a x1.2) x1.1, x1.2 + 1) ⟨by first | omega | assumption | (simp only [List.length_append, List.length_cons, List.length_nil, List.length_replicate, put_len] at * <;> omega), by first | omega | assumption | (simp only [List.length_append, List.length_cons, List.length_nil, List.length_replicate, put_len] at * <;> omega)⟩ (by first | omega | assumption | (simp only [List.length_append, List.length_cons, List.length_nil, List.length_replicate, put_len] at * <;> omega)) (sub_of [] ⟨rfl, rfl, rfl, trivial⟩ trivial rfl)
      · try simp only [Bool.and_eq_true, Bool.or_eq_true, Bool.not_eq_true', Bool.and_eq_false_iff, Bool.or_eq_false_iff, Bool.not_eq_false', decide_eq_true_eq, decide_eq_false_iff_not, beq_iff_eq, bne_iff_ne, beq_eq_false_iff_ne, bne_eq_false_iff_eq, Bool.true_and, ne_eq, Decidable.not_not, Int.not_lt, Int.not_le, Nat.not_lt, Nat.not_le, strB_nil, strB_nil', strB_nnil, strB_nnil'] at h5
        refine run_exit rfl ?_
        exact run_cont hk3 (x1.1, x1.2) ⟨by first | omega | assumption | (simp only [List.length_append, List.length_cons, List.length_nil, List.length_replicate, put_len] at * <;> omega), by first | omega | assumption | (simp only [List.length_append, List.length_cons, List.length_nil, List.length_replicate, put_len] at * <;> omega), by first | omega | assumption | (simp only [List.length_append, List.length_cons, List.length_nil, List.length_replicate, put_len] at * <;> omega)⟩ (sub_of [] ⟨rfl, trivial⟩ trivial rfl)

/-! ### spec_l00In -/
theorem c_spec_l00In (n_ : Int) (low : Int) (high : Int) : Con Try.prog 45 [.int .i64 n_, .int .i64 low, .int .i64 high] [] (.bool (m_spec_l00In n_ low high)) ([]) := by
  refine con_intro (out := fun r : Bool => ((.bool r : V), ([] : List (Nat × Option O)))) (r := (m_spec_l00In n_ low high)) Try.func45 rfl Try.ntmps45 rfl ?_
  refine run_seq ?_
  refine run_region (q_assign .n (.c rfl) rfl <|
      Lex.nil) ?_
  refine run_seq ?_
  refine run_region (q_move .n (.t rfl) rfl <|
      q_move .n (.t rfl) rfl <|
      q_int .n (.t rfl) (.t rfl) rfl rfl <|
      q_move .n (.t rfl) rfl <|
      q_move (.t rfl rfl) (.t rfl) rfl <|
      q_move (.t rfl rfl) (.t rfl) rfl <|
      q_int (.t rfl rfl) (.u rfl id) (.u rfl id) rfl rfl <|
      q_and .n (.t rfl) (.u rfl id) rfl <|
      q_assign .n (.t rfl) rfl <|
      Lex.nil) ?_
  exact run_ret [] (.cons (.t rfl rfl) .nil) rfl trivial rfl

/-! ### spec_l01Small -/
theorem c_spec_l01Small (c_ : Int) : Con Try.prog 131 [.int .u8 c_] [] (.bool (m_spec_l01Small c_)) ([]) := by
  refine con_intro (out := fun r : Bool => ((.bool r : V), ([] : List (Nat × Option O)))) (r := (m_spec_l01Small c_)) Try.func131 rfl Try.ntmps131 rfl ?_
  refine run_seq ?_
  refine run_region (q_assign .n (.c rfl) rfl <|
      Lex.nil) ?_
  refine run_seq ?_
  refine run_region (q_move .n (.t rfl) rfl <|
      q_int .n (.t rfl) (.c rfl) rfl rfl <|
      q_move .n (.t rfl) rfl <|
      q_move (.t rfl rfl) (.t rfl) rfl <|
      q_int (.t rfl rfl) (.u rfl id) (.c rfl) rfl rfl <|
      q_and .n (.t rfl) (.u rfl id) rfl <|
      q_assign .n (.t rfl) rfl <|
      Lex.nil) ?_
  exact run_ret [] (.cons (.t rfl rfl) .nil) rfl trivial rfl

/-! ### spec_l01Digit -/
theorem c_spec_l01Digit (c_ : Int) : Con Try.prog 132 [.int .u8 c_] [] (.bool (m_spec_l01Digit c_)) ([]) := by
  refine con_intro (out := fun r : Bool => ((.bool r : V), ([] : List (Nat × Option O)))) (r := (m_spec_l01Digit c_)) Try.func132 rfl Try.ntmps132 rfl ?_
  refine run_seq ?_
  refine run_region (q_assign .n (.c rfl) rfl <|
      Lex.nil) ?_
  refine run_seq ?_
  refine run_region (q_move .n (.t rfl) rfl <|
      q_int .n (.t rfl) (.c rfl) rfl rfl <|
      q_move .n (.t rfl) rfl <|
      q_move (.t rfl rfl) (.t rfl) rfl <|
      q_int (.t rfl rfl) (.u rfl id) (.c rfl) rfl rfl <|
      q_and .n (.t rfl) (.u rfl id) rfl <|
      q_assign .n (.t rfl) rfl <|
      Lex.nil) ?_
  exact run_ret [] (.cons (.t rfl rfl) .nil) rfl trivial rfl

/-! ### spec_l01Name -/
theorem c_spec_l01Name (s_ : List UInt8) : Con Try.prog 111 [.str s_] [] (.bool (m_spec_l01Name s_)) ([]) := by
  refine con_intro (out := fun r : Bool => ((.bool r : V), ([] : List (Nat × Option O)))) (r := (m_spec_l01Name s_)) Try.func111 rfl Try.ntmps111 rfl ?_
  refine run_seq ?_
  refine run_region (q_assign .n (.c rfl) rfl <|
      Lex.nil) ?_
  refine run_seq ?_
  refine run_seq ?_
  refine run_region (q_move .n (.t rfl) rfl <|
      q_strcmp .n (.t rfl) (.c rfl) rfl rfl <|
      q_move .n (.t rfl) rfl <|
      q_move (.f rfl rfl) (.t rfl) rfl <|
      q_len (.f rfl rfl) (.u rfl id) rfl rfl st_9 rfl <|
      q_int (.f rfl rfl) (.u rfl id) (.c rfl) rfl rfl <|
      q_or .n (.t rfl) (.u rfl id) rfl <|
      q_move .n (.t rfl) rfl <|
      q_move (.f rfl rfl) (.t rfl) rfl <|
      q_strat (.f rfl rfl) (.u rfl id) (.c rfl) st_9 (fun hg => by simp only [Bool.and_eq_true, Bool.or_eq_true, Bool.not_eq_true', Bool.and_eq_false_iff, Bool.or_eq_false_iff, Bool.not_eq_false', decide_eq_true_eq, decide_eq_false_iff_not, beq_iff_eq, bne_iff_ne, beq_eq_false_iff_ne, bne_eq_false_iff_eq, Bool.true_and, ne_eq, Decidable.not_not, Int.not_lt, Int.not_le, Nat.not_lt, Nat.not_le, strB_nil, strB_nil', strB_nnil, strB_nnil'] at hg; first | omega | assumption | (simp only [List.length_append, List.length_cons, List.length_nil, List.length_replicate, put_len] at * <;> omega)) rfl <|
      q_call0 (full := false) (.f rfl rfl) .f en_131 (.cons (.u rfl id) .nil) (.cons (.b (.a (.same rfl))) .nil) (fun hg => c_spec_l01Small (((s_.getD (0 : Int).toNat 0).toNat : Nat) : Int)) rfl (fun h => Bool.noConfusion h) rfl <|
      q_not (.f rfl rfl) (.u rfl id) rfl <|
      q_or .n (.t rfl) (.u rfl id) rfl <|
      Lex.nil) ?_
  refine run_cond (.t rfl) rfl (fun h1 => ?_) (fun h1 => ?_)
  · try simp only [Bool.and_eq_true, Bool.or_eq_true, Bool.not_eq_true', Bool.and_eq_false_iff, Bool.or_eq_false_iff, Bool.not_eq_false', decide_eq_true_eq, decide_eq_false_iff_not, beq_iff_eq, bne_iff_ne, beq_eq_false_iff_ne, bne_eq_false_iff_eq, Bool.true_and, ne_eq, Decidable.not_not, Int.not_lt, Int.not_le, Nat.not_lt, Nat.not_le, strB_nil, strB_nil', strB_nnil, strB_nnil'] at h1
    refine run_seq ?_
    refine run_region (q_assign .n (.c rfl) rfl <|
        Lex.nil) ?_
    exact run_ret [] (.cons (.t rfl rfl) .nil) rfl trivial rfl
  · try simp only [Bool.and_eq_true, Bool.or_eq_true, Bool.not_eq_true', Bool.and_eq_false_iff, Bool.or_eq_false_iff, Bool.not_eq_false', decide_eq_true_eq, decide_eq_false_iff_not, beq_iff_eq, bne_iff_ne, beq_eq_false_iff_ne, bne_eq_false_iff_eq, Bool.true_and, ne_eq, Decidable.not_not, Int.not_lt, Int.not_le, Nat.not_lt, Nat.not_le, strB_nil, strB_nil', strB_nnil, strB_nnil'] at h1
    refine run_skip ?_
    refine run_seq ?_
    refine run_seq ?_
    refine run_region (q_assign .n (.c rfl) rfl <|
        Lex.nil) ?_
    refine run_block ?_
    refine run_LOOP (m_spec_l01Name_b1 s_) _ _ _ rfl (fun (x1 : Int) => 0 ≤ x1 ∧ x1 ≤ (s_.length : Int)) (fun x1 => 0 ≤ x1 ∧ x1 ≤ (s_.length : Int) ∧ (s_.length : Int) ≤ x1) (fun x1 => ((s_.length : Int) - x1 : Int).toNat) (fun x1 => ⟨[(0, some (true, .str s_)), (3, some (true, .int .i64 x1))], []⟩) (fun x1 => ⟨[], []⟩) ⟨by first | omega | assumption | (simp only [List.length_append, List.length_cons, List.length_nil, List.length_replicate, put_len] at * <;> omega), by first | omega | assumption | (simp only [List.length_append, List.length_cons, List.length_nil, List.length_replicate, put_len] at * <;> omega)⟩ (by first | omega | assumption | (simp only [List.length_append, List.length_cons, List.length_nil, List.length_replicate, put_len] at * <;> omega)) (sub_of [] ⟨rfl, rfl, trivial⟩ trivial rfl) ?_ ?_
    · intro x1 i6
      obtain ⟨e7, e8, e9⟩ := i6
      try dsimp only at *
      refine run_seq ?_
      refine run_region (q_assign .n (.c rfl) rfl <|
          Lex.nil) ?_
      exact run_ret [] (.cons (.t rfl rfl) .nil) rfl trivial rfl
    · intro rec1 k1 hk2 x1 i3
      obtain ⟨e10, e11⟩ := i3
      try dsimp only at *
      refine run_seq ?_
      refine run_seq ?_
      refine run_region (q_move .n (.t rfl) rfl <|
          q_move .n (.t rfl) rfl <|
          q_len .n (.t rfl) rfl rfl st_9 rfl <|
          q_int .n (.t rfl) (.t rfl) rfl rfl <|
          Lex.nil) ?_
      refine run_cond (.t rfl) rfl (fun h4 => ?_) (fun h4 => ?_)
      · try simp only [Bool.and_eq_true, Bool.or_eq_true, Bool.not_eq_true', Bool.and_eq_false_iff, Bool.or_eq_false_iff, Bool.not_eq_false', decide_eq_true_eq, decide_eq_false_iff_not, beq_iff_eq, bne_iff_ne, beq_eq_false_iff_ne, bne_eq_false_iff_eq, Bool.true_and, ne_eq, Decidable.not_not, Int.not_lt, Int.not_le, Nat.not_lt, Nat.not_le, strB_nil, strB_nil', strB_nnil, strB_nnil'] at h4
        refine run_skip ?_
        refine run_seq ?_
        refine run_block ?_
        refine run_seq ?_
        refine run_region (q_move .n (.t rfl) rfl <|
            q_move .n (.t rfl) rfl <|
            q_strat .n (.t rfl) (.t rfl) st_9 (fun _ => by first | omega | assumption | (simp only [List.length_append, List.length_cons, List.length_nil, List.length_replicate, put_len] at * <;> omega)) rfl <|
            q_call0 (full := false) .n .f en_131 (.cons (.t rfl) .nil) (.cons (.b (.a (.same rfl))) .nil) (fun hg => c_spec_l01Small (((s_.getD x1.toNat 0).toNat : Nat) : Int)) rfl (fun h => Bool.noConfusion h) rfl <|
            q_not .n (.t rfl) rfl <|
            q_move .n (.t rfl) rfl <|
            q_move (.t rfl rfl) (.t rfl) rfl <|
            q_move (.t rfl rfl) (.t rfl) rfl <|
            q_strat (.t rfl rfl) (.u rfl id) (.u rfl id) st_9 (fun hg => by simp only [Bool.and_eq_true, Bool.or_eq_true, Bool.not_eq_true', Bool.and_eq_false_iff, Bool.or_eq_false_iff, Bool.not_eq_false', decide_eq_true_eq, decide_eq_false_iff_not, beq_iff_eq, bne_iff_ne, beq_eq_false_iff_ne, bne_eq_false_iff_eq, Bool.true_and, ne_eq, Decidable.not_not, Int.not_lt, Int.not_le, Nat.not_lt, Nat.not_le, strB_nil, strB_nil', strB_nnil, strB_nnil'] at hg; first | omega | assumption | (simp only [List.length_append, List.length_cons, List.length_nil, List.length_replicate, put_len] at * <;> omega)) rfl <|
            q_call0 (full := false) (.t rfl rfl) .f en_132 (.cons (.u rfl id) .nil) (.cons (.b (.a (.same rfl))) .nil) (fun hg => c_spec_l01Digit (((s_.getD x1.toNat 0).toNat : Nat) : Int)) rfl (fun h => Bool.noConfusion h) rfl <|
            q_not (.t rfl rfl) (.u rfl id) rfl <|
            q_and .n (.t rfl) (.u rfl id) rfl <|
            Lex.nil) ?_
        refine run_cond (.t rfl) rfl (fun h5 => ?_) (fun h5 => ?_)
        · try simp only [Bool.and_eq_true, Bool.or_eq_true, Bool.not_eq_true', Bool.and_eq_false_iff, Bool.or_eq_false_iff, Bool.not_eq_false', decide_eq_true_eq, decide_eq_false_iff_not, beq_iff_eq, bne_iff_ne, beq_eq_false_iff_ne, bne_eq_false_iff_eq, Bool.true_and, ne_eq, Decidable.not_not, Int.not_lt, Int.not_le, Nat.not_lt, Nat.not_le, strB_nil, strB_nil', strB_nnil, strB_nnil'] at h5
          refine run_seq ?_
          refine run_region (q_assign .n (.c rfl) rfl <|
              Lex.nil) ?_
          exact run_ret [] (.cons (.t rfl rfl) .nil) rfl trivial rfl
        · try simp only [Bool.and_eq_true, Bool.or_eq_true, Bool.not_eq_true', Bool.and_eq_false_iff, Bool.or_eq_false_iff, Bool.not_eq_false', decide_eq_true_eq, decide_eq_false_iff_not, beq_iff_eq, bne_iff_ne, beq_eq_false_iff_ne, bne_eq_false_iff_eq, Bool.true_and, ne_eq, Decidable.not_not, Int.not_lt, Int.not_le, Nat.not_lt, Nat.not_le, strB_nil, strB_nil', strB_nnil, strB_nnil'] at h5
          refine run_skip ?_
          refine run_endB ?_
          refine run_region (q_move .n (.t rfl) rfl <|
              q_add .n (.t rfl) (.c rfl) (fun _ => by first | omega | assumption | (simp only [List.length_append, List.length_cons, List.length_nil, List.length_replicate, put_len] at * <;> omega)) rfl <|
              q_assign .n (.t rfl) rfl <|
              Lex.nil) ?_
          exact run_again (x1 + 1) ⟨by first | omega | assumption | (simp only [List.length_append, List.length_cons, List.length_nil, List.length_replicate, put_len] at * <;> omega), by first | omega | assumption | (simp only [List.length_append, List.length_cons, List.length_nil, List.length_replicate, put_len] at * <;> omega)⟩ (by first | omega | assumption | (simp only [List.length_append, List.length_cons, List.length_nil, List.length_replicate, put_len] at * <;> omega)) (sub_of [] ⟨rfl, rfl, trivial⟩ trivial rfl)
      · try simp only [Bool.and_eq_true, Bool.or_eq_true, Bool.not_eq_true', Bool.and_eq_false_iff, Bool.or_eq_false_iff, Bool.not_eq_false', decide_eq_true_eq, decide_eq_false_iff_not, beq_iff_eq, bne_iff_ne, beq_eq_false_iff_ne, bne_eq_false_iff_eq, Bool.true_and, ne_eq, Decidable.not_not, Int.not_lt, Int.not_le, Nat.not_lt, Nat.not_le, strB_nil, strB_nil', strB_nnil, strB_nnil'] at h4
        refine run_exit rfl ?_
        exact run_cont hk2 x1 ⟨by first | omega | assumption | (simp only [List.length_append, List.length_cons, List.length_nil, List.length_replicate, put_len] at * <;> omega), by first | omega | assumption | (simp only [List.length_append, List.length_cons, List.length_nil, List.length_replicate, put_len] at * <;> omega), by first | omega | assumption | (simp only [List.length_append, List.length_cons, List.length_nil, List.length_replicate, put_len] at * <;> omega)⟩ (sub_of [] trivial trivial rfl)

/-! ### spec_l25One -/
theorem c_spec_l25One (c_ : gCheck) : Con Try.prog 93 [.rp [.str c_.Id, .int .i64 c_.Every, .int .i64 c_.Last]] [] (.bool (m_spec_l25One c_)) ([]) := by
  refine con_intro (out := fun r : Bool => ((.bool r : V), ([] : List (Nat × Option O)))) (r := (m_spec_l25One c_)) Try.func93 rfl Try.ntmps93 rfl ?_
  refine run_seq ?_
  refine run_region (q_assign .n (.c rfl) rfl <|
      Lex.nil) ?_
  refine run_seq ?_
  refine run_region (q_move .n (.t rfl) rfl <|
      q_nilc_ro .n (.t rfl) rfl <|
      q_fld_ro .n (.t rfl) fo_83_0 rfl <|
      q_ld1_ro .n (.t rfl) rfl ic_9 rfl <|
      q_call0 (full := false) .n .f en_111 (.cons (.t rfl) .nil) (.cons (.b (.a (.same rfl))) .nil) (fun hg => c_spec_l01Name c_.Id) rfl (fun h => Bool.noConfusion h) rfl <|
      q_move .n (.t rfl) rfl <|
      q_move (.t rfl rfl) (.t rfl) rfl <|
      q_nilc_ro (.t rfl rfl) (.u rfl id) rfl <|
      q_fld_ro (.t rfl rfl) (.u rfl id) fo_83_1 rfl <|
      q_ld1_ro (.t rfl rfl) (.u rfl id) rfl ic_2 rfl <|
      q_call0 (full := false) (.t rfl rfl) .f en_45 (.cons (.u rfl id) (.cons (.c rfl) (.cons (.c rfl) .nil))) (.cons (.b (.a (.same rfl))) (.cons (.b (.a (.same rfl))) (.cons (.b (.a (.same rfl))) .nil))) (fun hg => c_spec_l00In c_.Every 1 365) rfl (fun h => Bool.noConfusion h) rfl <|
      q_and .n (.t rfl) (.u rfl id) rfl <|
      q_move .n (.t rfl) rfl <|
      q_move (.t rfl rfl) (.t rfl) rfl <|
      q_nilc_ro (.t rfl rfl) (.u rfl id) rfl <|
      q_fld_ro (.t rfl rfl) (.u rfl id) fo_83_2 rfl <|
      q_ld1_ro (.t rfl rfl) (.u rfl id) rfl ic_2 rfl <|
      q_call0 (full := false) (.t rfl rfl) .f en_45 (.cons (.u rfl id) (.cons (.c rfl) (.cons (.c rfl) .nil))) (.cons (.b (.a (.same rfl))) (.cons (.b (.a (.same rfl))) (.cons (.b (.a (.same rfl))) .nil))) (fun hg => c_spec_l00In c_.Last 0 100000) rfl (fun h => Bool.noConfusion h) rfl <|
      q_and .n (.t rfl) (.u rfl id) rfl <|
      q_assign .n (.t rfl) rfl <|
      Lex.nil) ?_
  exact run_ret [] (.cons (.t rfl rfl) .nil) rfl trivial rfl

/-! ### spec_l25Ok -/
theorem c_spec_l25Ok (list : List gCheck) : Con Try.prog 43 [.sl 3 (list.map gCheck.v)] [] (.bool (m_spec_l25Ok list)) ([]) := by
  refine con_intro (out := fun r : Bool => ((.bool r : V), ([] : List (Nat × Option O)))) (r := (m_spec_l25Ok list)) Try.func43 rfl Try.ntmps43 rfl ?_
  refine run_fact (t := 0) rfl fun hl => ?_
  have l1 := hl; clear hl; simp only [List.length_map] at l1
  refine run_seq ?_
  refine run_region (q_assign .n (.c rfl) rfl <|
      Lex.nil) ?_
  refine run_seq ?_
  refine run_seq ?_
  refine run_region (q_assign .n (.c rfl) rfl <|
      Lex.nil) ?_
  refine run_block ?_
  refine run_LOOP (m_spec_l25Ok_b1 list) _ _ _ rfl (fun (x1 : Int) => 0 ≤ x1 ∧ x1 ≤ (list.length : Int)) (fun x1 => 0 ≤ x1 ∧ x1 ≤ (list.length : Int) ∧ (list.length : Int) ≤ x1) (fun x1 => ((list.length : Int) - x1 : Int).toNat) (fun x1 => ⟨[(0, some (true, .sl 3 (list.map gCheck.v))), (3, some (true, .int .i64 x1))], []⟩) (fun x1 => ⟨[(0, some (true, .sl 3 (list.map gCheck.v)))], []⟩) ⟨by first | omega | assumption | (simp only [List.length_append, List.length_cons, List.length_nil, List.length_replicate, put_len] at * <;> omega), by first | omega | assumption | (simp only [List.length_append, List.length_cons, List.length_nil, List.length_replicate, put_len] at * <;> omega)⟩ (by first | omega | assumption | (simp only [List.length_append, List.length_cons, List.length_nil, List.length_replicate, put_len] at * <;> omega)) (sub_of [] ⟨rfl, rfl, trivial⟩ trivial rfl) ?_ ?_
  · intro x1 i6
    obtain ⟨e7, e8, e9⟩ := i6
    try dsimp only at *
    refine run_seq ?_
    refine run_region (q_move .n (.t rfl) rfl <|
        q_len .n (.t rfl) rfl len_map ss_27 rfl <|
        q_int .n (.t rfl) (.c rfl) rfl rfl <|
        q_assign .n (.t rfl) rfl <|
        Lex.nil) ?_
    exact run_ret [] (.cons (.t rfl rfl) .nil) rfl trivial rfl
  · intro rec1 k1 hk2 x1 i3
    obtain ⟨e10, e11⟩ := i3
    try dsimp only at *
    refine run_seq ?_
    refine run_seq ?_
    refine run_region (q_move .n (.t rfl) rfl <|
        q_move .n (.t rfl) rfl <|
        q_len .n (.t rfl) rfl len_map ss_27 rfl <|
        q_int .n (.t rfl) (.t rfl) rfl rfl <|
        Lex.nil) ?_
    refine run_cond (.t rfl) rfl (fun h4 => ?_) (fun h4 => ?_)
    · try simp only [Bool.and_eq_true, Bool.or_eq_true, Bool.not_eq_true', Bool.and_eq_false_iff, Bool.or_eq_false_iff, Bool.not_eq_false', decide_eq_true_eq, decide_eq_false_iff_not, beq_iff_eq, bne_iff_ne, beq_eq_false_iff_ne, bne_eq_false_iff_eq, Bool.true_and, ne_eq, Decidable.not_not, Int.not_lt, Int.not_le, Nat.not_lt, Nat.not_le, strB_nil, strB_nil', strB_nnil, strB_nnil'] at h4
      refine run_skip ?_
      refine run_seq ?_
      refine run_block ?_
      refine run_seq ?_
      refine run_draw fmo (q_move .n (.t rfl) rfl <|
          q_move .n (.t rfl) rfl <|
          q_idx_rm .n (.t rfl) (.t rfl) sl_27 (fun _ => by first | omega | assumption | (simp only [List.length_append, List.length_cons, List.length_nil, List.length_replicate, put_len] at * <;> omega)) rfl <|
          q_call0 (full := false) .n .f en_93 (.cons (.t rfl) .nil) (.cons (.b (.a (.same rfl))) .nil) (fun hg => c_spec_l25One (at' list x1)) rfl (fun h => Bool.noConfusion h) rfl <|
          q_not .n (.t rfl) rfl <|
          q_move .n (.t rfl) rfl <|
          q_move (.f rfl rfl) (.t rfl) rfl <|
          q_int (.f rfl rfl) (.u rfl id) (.c rfl) rfl rfl <|
          q_move (.f rfl rfl) (.u rfl id) rfl <|
          q_move (.t rfl rfl) (.t rfl) rfl <|
          q_move (.t rfl rfl) (.t rfl) rfl <|
          q_sub (.t rfl rfl) (.u rfl id) (.c rfl) (fun hg => by simp only [Bool.and_eq_true, Bool.or_eq_true, Bool.not_eq_true', Bool.and_eq_false_iff, Bool.or_eq_false_iff, Bool.not_eq_false', decide_eq_true_eq, decide_eq_false_iff_not, beq_iff_eq, bne_iff_ne, beq_eq_false_iff_ne, bne_eq_false_iff_eq, Bool.true_and, ne_eq, Decidable.not_not, Int.not_lt, Int.not_le, Nat.not_lt, Nat.not_le, strB_nil, strB_nil', strB_nnil, strB_nnil'] at hg; first | omega | assumption | (simp only [List.length_append, List.length_cons, List.length_nil, List.length_replicate, put_len] at * <;> omega)) rfl <|
          q_idx_rm (.t rfl rfl) (.u rfl id) (.u rfl id) sl_27 (fun hg => by simp only [Bool.and_eq_true, Bool.or_eq_true, Bool.not_eq_true', Bool.and_eq_false_iff, Bool.or_eq_false_iff, Bool.not_eq_false', decide_eq_true_eq, decide_eq_false_iff_not, beq_iff_eq, bne_iff_ne, beq_eq_false_iff_ne, bne_eq_false_iff_eq, Bool.true_and, ne_eq, Decidable.not_not, Int.not_lt, Int.not_le, Nat.not_lt, Nat.not_le, strB_nil, strB_nil', strB_nnil, strB_nnil'] at hg; first | omega | assumption | (simp only [List.length_append, List.length_cons, List.length_nil, List.length_replicate, put_len] at * <;> omega)) rfl <|
          q_fld_ro (.t rfl rfl) (.u rfl id) fo_83_0 rfl <|
          q_ld1_ro (.t rfl rfl) (.u rfl id) rfl ic_9 rfl <|
          q_move (.t rfl rfl) (.t rfl) rfl <|
          q_move (.t rfl rfl) (.t rfl) rfl <|
          q_idx_rm (.t rfl rfl) (.u rfl id) (.u rfl id) sl_27 (fun hg => by simp only [Bool.and_eq_true, Bool.or_eq_true, Bool.not_eq_true', Bool.and_eq_false_iff, Bool.or_eq_false_iff, Bool.not_eq_false', decide_eq_true_eq, decide_eq_false_iff_not, beq_iff_eq, bne_iff_ne, beq_eq_false_iff_ne, bne_eq_false_iff_eq, Bool.true_and, ne_eq, Decidable.not_not, Int.not_lt, Int.not_le, Nat.not_lt, Nat.not_le, strB_nil, strB_nil', strB_nnil, strB_nnil'] at hg; first | omega | assumption | (simp only [List.length_append, List.length_cons, List.length_nil, List.length_replicate, put_len] at * <;> omega)) rfl <|
          q_fld_ro (.t rfl rfl) (.u rfl id) fo_83_0 rfl <|
          q_ld1_ro (.t rfl rfl) (.u rfl id) rfl ic_9 rfl <|
          q_strcmp (.t rfl rfl) (.u rfl id) (.u rfl id) rfl rfl <|
          q_and (.f rfl rfl) (.u rfl id) (.u rfl id) rfl <|
          q_or .n (.t rfl) (.u rfl id) rfl <|
          Lex.nil) (by kernel_rfl) ?_
      refine run_cond (.t rfl) rfl (fun h5 => ?_) (fun h5 => ?_)
      · try simp only [Bool.and_eq_true, Bool.or_eq_true, Bool.not_eq_true', Bool.and_eq_false_iff, Bool.or_eq_false_iff, Bool.not_eq_false', decide_eq_true_eq, decide_eq_false_iff_not, beq_iff_eq, bne_iff_ne, beq_eq_false_iff_ne, bne_eq_false_iff_eq, Bool.true_and, ne_eq, Decidable.not_not, Int.not_lt, Int.not_le, Nat.not_lt, Nat.not_le, strB_nil, strB_nil', strB_nnil, strB_nnil'] at h5
        refine run_seq ?_
        refine run_region (q_assign .n (.c rfl) rfl <|
            Lex.nil) ?_
        exact run_ret [] (.cons (.t rfl rfl) .nil) rfl trivial rfl
      · try simp only [Bool.and_eq_true, Bool.or_eq_true, Bool.not_eq_true', Bool.and_eq_false_iff, Bool.or_eq_false_iff, Bool.not_eq_false', decide_eq_true_eq, decide_eq_false_iff_not, beq_iff_eq, bne_iff_ne, beq_eq_false_iff_ne, bne_eq_false_iff_eq, Bool.true_and, ne_eq, Decidable.not_not, Int.not_lt, Int.not_le, Nat.not_lt, Nat.not_le, strB_nil, strB_nil', strB_nnil, strB_nnil'] at h5
        refine run_skip ?_
        refine run_endB ?_
        refine run_region (q_move .n (.t rfl) rfl <|
            q_add .n (.t rfl) (.c rfl) (fun _ => by first | omega | assumption | (simp only [List.length_append, List.length_cons, List.length_nil, List.length_replicate, put_len] at * <;> omega)) rfl <|
            q_assign .n (.t rfl) rfl <|
            Lex.nil) ?_
        exact run_again (x1 + 1) ⟨by first | omega | assumption | (simp only [List.length_append, List.length_cons, List.length_nil, List.length_replicate, put_len] at * <;> omega), by first | omega | assumption | (simp only [List.length_append, List.length_cons, List.length_nil, List.length_replicate, put_len] at * <;> omega)⟩ (by first | omega | assumption | (simp only [List.length_append, List.length_cons, List.length_nil, List.length_replicate, put_len] at * <;> omega)) (sub_of [] ⟨rfl, rfl, trivial⟩ trivial rfl)
    · try simp only [Bool.and_eq_true, Bool.or_eq_true, Bool.not_eq_true', Bool.and_eq_false_iff, Bool.or_eq_false_iff, Bool.not_eq_false', decide_eq_true_eq, decide_eq_false_iff_not, beq_iff_eq, bne_iff_ne, beq_eq_false_iff_ne, bne_eq_false_iff_eq, Bool.true_and, ne_eq, Decidable.not_not, Int.not_lt, Int.not_le, Nat.not_lt, Nat.not_le, strB_nil, strB_nil', strB_nnil, strB_nnil'] at h4
      refine run_exit rfl ?_
      exact run_cont hk2 x1 ⟨by first | omega | assumption | (simp only [List.length_append, List.length_cons, List.length_nil, List.length_replicate, put_len] at * <;> omega), by first | omega | assumption | (simp only [List.length_append, List.length_cons, List.length_nil, List.length_replicate, put_len] at * <;> omega), by first | omega | assumption | (simp only [List.length_append, List.length_cons, List.length_nil, List.length_replicate, put_len] at * <;> omega)⟩ (sub_of [] ⟨rfl, trivial⟩ trivial rfl)

/-! ### spec_l25Day -/
theorem c_spec_l25Day (n_ : Int) : Con Try.prog 44 [.int .i64 n_] [] (.bool (m_spec_l25Day n_)) ([]) := by
  refine con_intro (out := fun r : Bool => ((.bool r : V), ([] : List (Nat × Option O)))) (r := (m_spec_l25Day n_)) Try.func44 rfl Try.ntmps44 rfl ?_
  refine run_seq ?_
  refine run_region (q_assign .n (.c rfl) rfl <|
      Lex.nil) ?_
  refine run_seq ?_
  refine run_region (q_move .n (.t rfl) rfl <|
      q_call0 (full := false) .n .f en_45 (.cons (.t rfl) (.cons (.c rfl) (.cons (.c rfl) .nil))) (.cons (.b (.a (.same rfl))) (.cons (.b (.a (.same rfl))) (.cons (.b (.a (.same rfl))) .nil))) (fun hg => c_spec_l00In n_ 0 100000) rfl (fun h => Bool.noConfusion h) rfl <|
      q_assign .n (.t rfl) rfl <|
      Lex.nil) ?_
  exact run_ret [] (.cons (.t rfl rfl) .nil) rfl trivial rfl

/-! ### spec_l25Due -/
theorem c_spec_l25Due (c_ : gCheck) : Con Try.prog 94 [.rp [.str c_.Id, .int .i64 c_.Every, .int .i64 c_.Last]] [] (.int .i64 (m_spec_l25Due c_)) ([]) := by
  refine con_intro (out := fun r : Int => ((.int .i64 r : V), ([] : List (Nat × Option O)))) (r := (m_spec_l25Due c_)) Try.func94 rfl Try.ntmps94 rfl ?_
  refine run_seq ?_
  refine run_region (q_assign .n (.c rfl) rfl <|
      Lex.nil) ?_
  refine run_seq ?_
  refine run_draw fmo (q_move .n (.t rfl) rfl <|
      q_nilc_ro .n (.t rfl) rfl <|
      q_fld_ro .n (.t rfl) fo_83_2 rfl <|
      q_ld1_ro .n (.t rfl) rfl ic_2 rfl <|
      q_move .n (.t rfl) rfl <|
      q_nilc_ro .n (.t rfl) rfl <|
      q_fld_ro .n (.t rfl) fo_83_1 rfl <|
      q_ld1_ro .n (.t rfl) rfl ic_2 rfl <|
      q_int .n (.t rfl) (.t rfl) rfl rfl <|
      q_assign .n (.t rfl) rfl <|
      Lex.nil) (by kernel_rfl) ?_
  exact run_ret [] (.cons (.t rfl rfl) .nil) rfl trivial rfl

/-! ### spec_l25Spread -/
set_option maxRecDepth 100000 in
set_option maxHeartbeats 4000000 in
theorem c_spec_l25Spread (list : List gCheck) (from_ : Int) (perDay : Int) (hp1 : list.length ≤ 16) (hp2 : 0 ≤ from_ ∧ from_ ≤ 100000) (hp3 : 1 ≤ perDay ∧ perDay ≤ 16) : Con Try.prog 46 [.sl 3 (list.map gCheck.v), .int .i64 from_, .int .i64 perDay] [] (.tup [.os 100 (m_spec_l25Spread list from_ perDay).1.length, .bool (m_spec_l25Spread list from_ perDay).2]) ([(100, some (.row 2 1 ((m_spec_l25Spread list from_ perDay).1.map (V.int .i64))))]) := by
  refine con_intro (out := fun r : (List Int) × Bool => ((.tup [.os 100 r.1.length, .bool r.2] : V), ([(100, some (.row 2 1 (r.1.map (V.int .i64))))] : List (Nat × Option O)))) (r := (m_spec_l25Spread list from_ perDay)) Try.func46 rfl Try.ntmps46 rfl ?_
  refine run_fact (t := 0) rfl fun hl => ?_
  have l1 := hl; clear hl; simp only [List.length_map] at l1
  refine run_seq ?_
  refine run_region (q_assign .n (.c rfl) rfl <|
      q_assign .n (.c rfl) rfl <|
      Lex.nil) ?_
  refine run_seq ?_
  refine run_region (q_bslicem ([] : List Int) (f := V.int .i64) (l := 200) .n rfl rfl .nil rfl si_24 zv_2 rfl rfl rfl <|
      q_assign .n (.t rfl) rfl <|
      Lex.nil) ?_
  refine run_seq ?_
  refine run_seq ?_
  refine run_region (q_assign .n (.c rfl) rfl <|
      Lex.nil) ?_
  refine run_block ?_
  refine run_LOOP (m_spec_l25Spread_b1 list from_ perDay) _ _ _ rfl (fun (x1 : (List Int) × Int) => 0 ≤ x1.2 ∧ x1.2 ≤ (list.length : Int) ∧ (x1.1.length : Int) + 0 ≤ x1.2 + (([] : List Int).length : Int) ∧ (x1.1.length : Int) = x1.2 ∧ negc x1.1 = x1.2) (fun x1 => 0 ≤ x1.2 ∧ x1.2 ≤ (list.length : Int) ∧ (x1.1.length : Int) + 0 ≤ x1.2 + (([] : List Int).length : Int) ∧ (x1.1.length : Int) = x1.2 ∧ negc x1.1 = x1.2 ∧ (list.length : Int) ≤ x1.2) (fun x1 => ((list.length : Int) - x1.2 : Int).toNat) (fun x1 => ⟨[(0, some (true, .sl 3 (list.map gCheck.v))), (1, some (true, .int .i64 from_)), (2, some (true, .int .i64 perDay)), (8, some (true, .os 200 x1.1.length)), (9, some (true, .int .i64 x1.2))], [(200, some (.row 2 1 (x1.1.map (V.int .i64))))]⟩) (fun x1 => ⟨[(0, some (true, .sl 3 (list.map gCheck.v))), (1, some (true, .int .i64 from_)), (2, some (true, .int .i64 perDay)), (8, some (true, .os 200 x1.1.length))], [(200, some (.row 2 1 (x1.1.map (V.int .i64))))]⟩) ⟨by first | omega | assumption | (simp only [List.length_append, List.length_cons, List.length_nil, List.length_replicate, put_len] at * <;> omega) | (exact negc_nil) | ((rw [negc_app]; omega)) | (exact BestI.nil) | ((dsimp only; omega)) | ((have hb := BestI.rng (by assumption); omega)) | ((dsimp only; exact BestI.take (by omega) (by omega))) | ((dsimp only; exact BestI.skip (by assumption) (by omega))) | ((have hb := BestI.done (i := x4.2) (by assumption) (by omega) (by omega); first | omega | (dsimp only; omega) | (dsimp only; rw [negc_put' (by omega) hb.2.2 (by omega)]; omega))), by first | omega | assumption | (simp only [List.length_append, List.length_cons, List.length_nil, List.length_replicate, put_len] at * <;> omega) | (exact negc_nil) | ((rw [negc_app]; omega)) | (exact BestI.nil) | ((dsimp only; omega)) | ((have hb := BestI.rng (by assumption); omega)) | ((dsimp only; exact BestI.take (by omega) (by omega))) | ((dsimp only; exact BestI.skip (by assumption) (by omega))) | ((have hb := BestI.done (i := x4.2) (by assumption) (by omega) (by omega); first | omega | (dsimp only; omega) | (dsimp only; rw [negc_put' (by omega) hb.2.2 (by omega)]; omega))), by first | omega | assumption | (simp only [List.length_append, List.length_cons, List.length_nil, List.length_replicate, put_len] at * <;> omega) | (exact negc_nil) | ((rw [negc_app]; omega)) | (exact BestI.nil) | ((dsimp only; omega)) | ((have hb := BestI.rng (by assumption); omega)) | ((dsimp only; exact BestI.take (by omega) (by omega))) | ((dsimp only; exact BestI.skip (by assumption) (by omega))) | ((have hb := BestI.done (i := x4.2) (by assumption) (by omega) (by omega); first | omega | (dsimp only; omega) | (dsimp only; rw [negc_put' (by omega) hb.2.2 (by omega)]; omega))), by first | omega | assumption | (simp only [List.length_append, List.length_cons, List.length_nil, List.length_replicate, put_len] at * <;> omega) | (exact negc_nil) | ((rw [negc_app]; omega)) | (exact BestI.nil) | ((dsimp only; omega)) | ((have hb := BestI.rng (by assumption); omega)) | ((dsimp only; exact BestI.take (by omega) (by omega))) | ((dsimp only; exact BestI.skip (by assumption) (by omega))) | ((have hb := BestI.done (i := x4.2) (by assumption) (by omega) (by omega); first | omega | (dsimp only; omega) | (dsimp only; rw [negc_put' (by omega) hb.2.2 (by omega)]; omega))), by first | omega | assumption | (simp only [List.length_append, List.length_cons, List.length_nil, List.length_replicate, put_len] at * <;> omega) | (exact negc_nil) | ((rw [negc_app]; omega)) | (exact BestI.nil) | ((dsimp only; omega)) | ((have hb := BestI.rng (by assumption); omega)) | ((dsimp only; exact BestI.take (by omega) (by omega))) | ((dsimp only; exact BestI.skip (by assumption) (by omega))) | ((have hb := BestI.done (i := x4.2) (by assumption) (by omega) (by omega); first | omega | (dsimp only; omega) | (dsimp only; rw [negc_put' (by omega) hb.2.2 (by omega)]; omega)))⟩ (by first | omega | assumption | (simp only [List.length_append, List.length_cons, List.length_nil, List.length_replicate, put_len] at * <;> omega) | (exact negc_nil) | ((rw [negc_app]; omega)) | (exact BestI.nil) | ((dsimp only; omega)) | ((have hb := BestI.rng (by assumption); omega)) | ((dsimp only; exact BestI.take (by omega) (by omega))) | ((dsimp only; exact BestI.skip (by assumption) (by omega))) | ((have hb := BestI.done (i := x4.2) (by assumption) (by omega) (by omega); first | omega | (dsimp only; omega) | (dsimp only; rw [negc_put' (by omega) hb.2.2 (by omega)]; omega)))) (sub_of [] ⟨rfl, rfl, rfl, rfl, rfl, trivial⟩ ⟨rfl, trivial⟩ rfl) ?_ ?_
  · intro x1 i5
    obtain ⟨e53, e54, e55, e56, e57, e58⟩ := i5
    try dsimp only at *
    refine run_seq ?_
    refine run_region (q_move .n (.t rfl) rfl <|
        q_len .n (.t rfl) rfl len_map ss_27 rfl <|
        q_assign .n (.t rfl) rfl <|
        Lex.nil) ?_
    refine run_seq ?_
    refine run_seq ?_
    refine run_region (q_move .n (.t rfl) rfl <|
        q_assign .n (.t rfl) rfl <|
        Lex.nil) ?_
    refine run_block ?_
    refine run_LOOP (m_spec_l25Spread_b2 list from_ perDay x1) _ _ _ rfl (fun (x2 : (List Int) × Int × Int) => from_ ≤ x2.2.2 ∧ x2.1.length = list.length ∧ negc x2.1 = x2.2.1 ∧ 0 ≤ x2.2.1 ∧ x2.2.1 ≤ list.length ∧ x2.2.2 + x2.2.1 ≤ from_ + list.length ∧ from_ ≤ x2.2.2) (fun x2 => from_ ≤ x2.2.2 ∧ x2.1.length = list.length ∧ negc x2.1 = x2.2.1 ∧ 0 ≤ x2.2.1 ∧ x2.2.1 ≤ list.length ∧ x2.2.2 + x2.2.1 ≤ from_ + list.length ∧ from_ ≤ x2.2.2) (fun x2 => x2.2.1.toNat) (fun x2 => ⟨[(0, some (true, .sl 3 (list.map gCheck.v))), (2, some (true, .int .i64 perDay)), (8, some (true, .os 200 x2.1.length)), (10, some (true, .int .i64 x2.2.1)), (11, some (true, .int .i64 x2.2.2))], [(200, some (.row 2 1 (x2.1.map (V.int .i64))))]⟩) (fun x2 => ⟨[(8, some (true, .os 200 x2.1.length))], [(200, some (.row 2 1 (x2.1.map (V.int .i64))))]⟩) ⟨by first | omega | assumption | (simp only [List.length_append, List.length_cons, List.length_nil, List.length_replicate, put_len] at * <;> omega) | (exact negc_nil) | ((rw [negc_app]; omega)) | (exact BestI.nil) | ((dsimp only; omega)) | ((have hb := BestI.rng (by assumption); omega)) | ((dsimp only; exact BestI.take (by omega) (by omega))) | ((dsimp only; exact BestI.skip (by assumption) (by omega))) | ((have hb := BestI.done (i := x4.2) (by assumption) (by omega) (by omega); first | omega | (dsimp only; omega) | (dsimp only; rw [negc_put' (by omega) hb.2.2 (by omega)]; omega))), by first | omega | assumption | (simp only [List.length_append, List.length_cons, List.length_nil, List.length_replicate, put_len] at * <;> omega) | (exact negc_nil) | ((rw [negc_app]; omega)) | (exact BestI.nil) | ((dsimp only; omega)) | ((have hb := BestI.rng (by assumption); omega)) | ((dsimp only; exact BestI.take (by omega) (by omega))) | ((dsimp only; exact BestI.skip (by assumption) (by omega))) | ((have hb := BestI.done (i := x4.2) (by assumption) (by omega) (by omega); first | omega | (dsimp only; omega) | (dsimp only; rw [negc_put' (by omega) hb.2.2 (by omega)]; omega))), by first | omega | assumption | (simp only [List.length_append, List.length_cons, List.length_nil, List.length_replicate, put_len] at * <;> omega) | (exact negc_nil) | ((rw [negc_app]; omega)) | (exact BestI.nil) | ((dsimp only; omega)) | ((have hb := BestI.rng (by assumption); omega)) | ((dsimp only; exact BestI.take (by omega) (by omega))) | ((dsimp only; exact BestI.skip (by assumption) (by omega))) | ((have hb := BestI.done (i := x4.2) (by assumption) (by omega) (by omega); first | omega | (dsimp only; omega) | (dsimp only; rw [negc_put' (by omega) hb.2.2 (by omega)]; omega))), by first | omega | assumption | (simp only [List.length_append, List.length_cons, List.length_nil, List.length_replicate, put_len] at * <;> omega) | (exact negc_nil) | ((rw [negc_app]; omega)) | (exact BestI.nil) | ((dsimp only; omega)) | ((have hb := BestI.rng (by assumption); omega)) | ((dsimp only; exact BestI.take (by omega) (by omega))) | ((dsimp only; exact BestI.skip (by assumption) (by omega))) | ((have hb := BestI.done (i := x4.2) (by assumption) (by omega) (by omega); first | omega | (dsimp only; omega) | (dsimp only; rw [negc_put' (by omega) hb.2.2 (by omega)]; omega))), by first | omega | assumption | (simp only [List.length_append, List.length_cons, List.length_nil, List.length_replicate, put_len] at * <;> omega) | (exact negc_nil) | ((rw [negc_app]; omega)) | (exact BestI.nil) | ((dsimp only; omega)) | ((have hb := BestI.rng (by assumption); omega)) | ((dsimp only; exact BestI.take (by omega) (by omega))) | ((dsimp only; exact BestI.skip (by assumption) (by omega))) | ((have hb := BestI.done (i := x4.2) (by assumption) (by omega) (by omega); first | omega | (dsimp only; omega) | (dsimp only; rw [negc_put' (by omega) hb.2.2 (by omega)]; omega))), by first | omega | assumption | (simp only [List.length_append, List.length_cons, List.length_nil, List.length_replicate, put_len] at * <;> omega) | (exact negc_nil) | ((rw [negc_app]; omega)) | (exact BestI.nil) | ((dsimp only; omega)) | ((have hb := BestI.rng (by assumption); omega)) | ((dsimp only; exact BestI.take (by omega) (by omega))) | ((dsimp only; exact BestI.skip (by assumption) (by omega))) | ((have hb := BestI.done (i := x4.2) (by assumption) (by omega) (by omega); first | omega | (dsimp only; omega) | (dsimp only; rw [negc_put' (by omega) hb.2.2 (by omega)]; omega))), by first | omega | assumption | (simp only [List.length_append, List.length_cons, List.length_nil, List.length_replicate, put_len] at * <;> omega) | (exact negc_nil) | ((rw [negc_app]; omega)) | (exact BestI.nil) | ((dsimp only; omega)) | ((have hb := BestI.rng (by assumption); omega)) | ((dsimp only; exact BestI.take (by omega) (by omega))) | ((dsimp only; exact BestI.skip (by assumption) (by omega))) | ((have hb := BestI.done (i := x4.2) (by assumption) (by omega) (by omega); first | omega | (dsimp only; omega) | (dsimp only; rw [negc_put' (by omega) hb.2.2 (by omega)]; omega)))⟩ (by first | omega | assumption | (simp only [List.length_append, List.length_cons, List.length_nil, List.length_replicate, put_len] at * <;> omega) | (exact negc_nil) | ((rw [negc_app]; omega)) | (exact BestI.nil) | ((dsimp only; omega)) | ((have hb := BestI.rng (by assumption); omega)) | ((dsimp only; exact BestI.take (by omega) (by omega))) | ((dsimp only; exact BestI.skip (by assumption) (by omega))) | ((have hb := BestI.done (i := x4.2) (by assumption) (by omega) (by omega); first | omega | (dsimp only; omega) | (dsimp only; rw [negc_put' (by omega) hb.2.2 (by omega)]; omega)))) (sub_of [] ⟨rfl, rfl, rfl, rfl, rfl, trivial⟩ ⟨rfl, trivial⟩ rfl) ?_ ?_
    · intro x2 i38
      obtain ⟨e39, e40, e41, e42, e43, e44, e45⟩ := i38
      try dsimp only at *
      refine run_seq ?_
      refine run_region (q_move .n (.t rfl) rfl <|
          q_assign .n (.t rfl) rfl <|
          q_assign .n (.c rfl) rfl <|
          Lex.nil) ?_
      exact run_ret [(100, 200)] (.cons (.t rfl rfl) (.cons (.t rfl rfl) .nil)) (by first | rfl | (simp only [put_len]; rfl)) ⟨rfl, trivial⟩ rfl
    · intro rec2 k2 hk6 x2 i7
      obtain ⟨e46, e47, e48, e49, e50, e51, e52⟩ := i7
      try dsimp only at *
      refine run_seq ?_
      refine run_seq ?_
      refine run_region (q_move .n (.t rfl) rfl <|
          q_int .n (.t rfl) (.c rfl) rfl rfl <|
          Lex.nil) ?_
      refine run_cond (.t rfl) rfl (fun h8 => ?_) (fun h8 => ?_)
      · try simp only [Bool.and_eq_true, Bool.or_eq_true, Bool.not_eq_true', Bool.and_eq_false_iff, Bool.or_eq_false_iff, Bool.not_eq_false', decide_eq_true_eq, decide_eq_false_iff_not, beq_iff_eq, bne_iff_ne, beq_eq_false_iff_ne, bne_eq_false_iff_eq, Bool.true_and, ne_eq, Decidable.not_not, Int.not_lt, Int.not_le, Nat.not_lt, Nat.not_le, strB_nil, strB_nil', strB_nnil, strB_nnil'] at h8
        refine run_skip ?_
        refine run_seq ?_
        refine run_block ?_
        refine run_seq ?_
        refine run_region (q_assign .n (.c rfl) rfl <|
            Lex.nil) ?_
        refine run_block ?_
        refine run_LOOP (m_spec_l25Spread_b3 list from_ perDay x1 rec2 k2 x2) _ _ _ rfl (fun (x3 : (List Int) × Int × Int) => x3.2.1 ≤ x2.2.1 ∧ 0 ≤ x3.2.2 ∧ x3.2.2 ≤ perDay ∧ x3.1.length = x2.1.length ∧ x3.1.length = list.length ∧ negc x3.1 = x3.2.1 ∧ 0 ≤ x3.2.1 ∧ x3.2.1 + x3.2.2 = x2.2.1) (fun x3 => x3.1.length = list.length ∧ negc x3.1 = x3.2.1 ∧ 0 ≤ x3.2.1 ∧ x3.2.1 < x2.2.1) (fun x3 => (perDay - x3.2.2 : Int).toNat) (fun x3 => ⟨[(0, some (true, .sl 3 (list.map gCheck.v))), (2, some (true, .int .i64 perDay)), (8, some (true, .os 200 x3.1.length)), (10, some (true, .int .i64 x3.2.1)), (11, some (true, .int .i64 x2.2.2)), (12, some (true, .int .i64 x3.2.2))], [(200, some (.row 2 1 (x3.1.map (V.int .i64))))]⟩) (fun x3 => ⟨[(0, some (true, .sl 3 (list.map gCheck.v))), (2, some (true, .int .i64 perDay)), (8, some (true, .os 200 x3.1.length)), (10, some (true, .int .i64 x3.2.1)), (11, some (true, .int .i64 x2.2.2))], [(200, some (.row 2 1 (x3.1.map (V.int .i64))))]⟩) ⟨by first | omega | assumption | (simp only [List.length_append, List.length_cons, List.length_nil, List.length_replicate, put_len] at * <;> omega) | (exact negc_nil) | ((rw [negc_app]; omega)) | (exact BestI.nil) | ((dsimp only; omega)) | ((have hb := BestI.rng (by assumption); omega)) | ((dsimp only; exact BestI.take (by omega) (by omega))) | ((dsimp only; exact BestI.skip (by assumption) (by omega))) | ((have hb := BestI.done (i := x4.2) (by assumption) (by omega) (by omega); first | omega | (dsimp only; omega) | (dsimp only; rw [negc_put' (by omega) hb.2.2 (by omega)]; omega))), by first | omega | assumption | (simp only [List.length_append, List.length_cons, List.length_nil, List.length_replicate, put_len] at * <;> omega) | (exact negc_nil) | ((rw [negc_app]; omega)) | (exact BestI.nil) | ((dsimp only; omega)) | ((have hb := BestI.rng (by assumption); omega)) | ((dsimp only; exact BestI.take (by omega) (by omega))) | ((dsimp only; exact BestI.skip (by assumption) (by omega))) | ((have hb := BestI.done (i := x4.2) (by assumption) (by omega) (by omega); first | omega | (dsimp only; omega) | (dsimp only; rw [negc_put' (by omega) hb.2.2 (by omega)]; omega))), by first | omega | assumption | (simp only [List.length_append, List.length_cons, List.length_nil, List.length_replicate, put_len] at * <;> omega) | (exact negc_nil) | ((rw [negc_app]; omega)) | (exact BestI.nil) | ((dsimp only; omega)) | ((have hb := BestI.rng (by assumption); omega)) | ((dsimp only; exact BestI.take (by omega) (by omega))) | ((dsimp only; exact BestI.skip (by assumption) (by omega))) | ((have hb := BestI.done (i := x4.2) (by assumption) (by omega) (by omega); first | omega | (dsimp only; omega) | (dsimp only; rw [negc_put' (by omega) hb.2.2 (by omega)]; omega))), by first | omega | assumption | (simp only [List.length_append, List.length_cons, List.length_nil, List.length_replicate, put_len] at * <;> omega) | (exact negc_nil) | ((rw [negc_app]; omega)) | (exact BestI.nil) | ((dsimp only; omega)) | ((have hb := BestI.rng (by assumption); omega)) | ((dsimp only; exact BestI.take (by omega) (by omega))) | ((dsimp only; exact BestI.skip (by assumption) (by omega))) | ((have hb := BestI.done (i := x4.2) (by assumption) (by omega) (by omega); first | omega | (dsimp only; omega) | (dsimp only; rw [negc_put' (by omega) hb.2.2 (by omega)]; omega))), by first | omega | assumption | (simp only [List.length_append, List.length_cons, List.length_nil, List.length_replicate, put_len] at * <;> omega) | (exact negc_nil) | ((rw [negc_app]; omega)) | (exact BestI.nil) | ((dsimp only; omega)) | ((have hb := BestI.rng (by assumption); omega)) | ((dsimp only; exact BestI.take (by omega) (by omega))) | ((dsimp only; exact BestI.skip (by assumption) (by omega))) | ((have hb := BestI.done (i := x4.2) (by assumption) (by omega) (by omega); first | omega | (dsimp only; omega) | (dsimp only; rw [negc_put' (by omega) hb.2.2 (by omega)]; omega))), by first | omega | assumption | (simp only [List.length_append, List.length_cons, List.length_nil, List.length_replicate, put_len] at * <;> omega) | (exact negc_nil) | ((rw [negc_app]; omega)) | (exact BestI.nil) | ((dsimp only; omega)) | ((have hb := BestI.rng (by assumption); omega)) | ((dsimp only; exact BestI.take (by omega) (by omega))) | ((dsimp only; exact BestI.skip (by assumption) (by omega))) | ((have hb := BestI.done (i := x4.2) (by assumption) (by omega) (by omega); first | omega | (dsimp only; omega) | (dsimp only; rw [negc_put' (by omega) hb.2.2 (by omega)]; omega))), by first | omega | assumption | (simp only [List.length_append, List.length_cons, List.length_nil, List.length_replicate, put_len] at * <;> omega) | (exact negc_nil) | ((rw [negc_app]; omega)) | (exact BestI.nil) | ((dsimp only; omega)) | ((have hb := BestI.rng (by assumption); omega)) | ((dsimp only; exact BestI.take (by omega) (by omega))) | ((dsimp only; exact BestI.skip (by assumption) (by omega))) | ((have hb := BestI.done (i := x4.2) (by assumption) (by omega) (by omega); first | omega | (dsimp only; omega) | (dsimp only; rw [negc_put' (by omega) hb.2.2 (by omega)]; omega))), by first | omega | assumption | (simp only [List.length_append, List.length_cons, List.length_nil, List.length_replicate, put_len] at * <;> omega) | (exact negc_nil) | ((rw [negc_app]; omega)) | (exact BestI.nil) | ((dsimp only; omega)) | ((have hb := BestI.rng (by assumption); omega)) | ((dsimp only; exact BestI.take (by omega) (by omega))) | ((dsimp only; exact BestI.skip (by assumption) (by omega))) | ((have hb := BestI.done (i := x4.2) (by assumption) (by omega) (by omega); first | omega | (dsimp only; omega) | (dsimp only; rw [negc_put' (by omega) hb.2.2 (by omega)]; omega)))⟩ (by first | omega | assumption | (simp only [List.length_append, List.length_cons, List.length_nil, List.length_replicate, put_len] at * <;> omega) | (exact negc_nil) | ((rw [negc_app]; omega)) | (exact BestI.nil) | ((dsimp only; omega)) | ((have hb := BestI.rng (by assumption); omega)) | ((dsimp only; exact BestI.take (by omega) (by omega))) | ((dsimp only; exact BestI.skip (by assumption) (by omega))) | ((have hb := BestI.done (i := x4.2) (by assumption) (by omega) (by omega); first | omega | (dsimp only; omega) | (dsimp only; rw [negc_put' (by omega) hb.2.2 (by omega)]; omega)))) (sub_of [] ⟨rfl, rfl, rfl, rfl, rfl, rfl, trivial⟩ ⟨rfl, trivial⟩ rfl) ?_ ?_
        · intro x3 i25
          obtain ⟨e26, e27, e28, e29⟩ := i25
          try dsimp only at *
          refine run_endB ?_
          refine run_region (q_move .n (.t rfl) rfl <|
              q_add .n (.t rfl) (.c rfl) (fun _ => by first | omega | assumption | (simp only [List.length_append, List.length_cons, List.length_nil, List.length_replicate, put_len] at * <;> omega) | (exact negc_nil) | ((rw [negc_app]; omega)) | (exact BestI.nil) | ((dsimp only; omega)) | ((have hb := BestI.rng (by assumption); omega)) | ((dsimp only; exact BestI.take (by omega) (by omega))) | ((dsimp only; exact BestI.skip (by assumption) (by omega))) | ((have hb := BestI.done (i := x4.2) (by assumption) (by omega) (by omega); first | omega | (dsimp only; omega) | (dsimp only; rw [negc_put' (by omega) hb.2.2 (by omega)]; omega)))) rfl <|
              q_assign .n (.t rfl) rfl <|
              Lex.nil) ?_
          exact run_again (x3.1, x3.2.1, x2.2.2 + 1) ⟨by first | omega | assumption | (simp only [List.length_append, List.length_cons, List.length_nil, List.length_replicate, put_len] at * <;> omega) | (exact negc_nil) | ((rw [negc_app]; omega)) | (exact BestI.nil) | ((dsimp only; omega)) | ((have hb := BestI.rng (by assumption); omega)) | ((dsimp only; exact BestI.take (by omega) (by omega))) | ((dsimp only; exact BestI.skip (by assumption) (by omega))) | ((have hb := BestI.done (i := x4.2) (by assumption) (by omega) (by omega); first | omega | (dsimp only; omega) | (dsimp only; rw [negc_put' (by omega) hb.2.2 (by omega)]; omega))), by first | omega | assumption | (simp only [List.length_append, List.length_cons, List.length_nil, List.length_replicate, put_len] at * <;> omega) | (exact negc_nil) | ((rw [negc_app]; omega)) | (exact BestI.nil) | ((dsimp only; omega)) | ((have hb := BestI.rng (by assumption); omega)) | ((dsimp only; exact BestI.take (by omega) (by omega))) | ((dsimp only; exact BestI.skip (by assumption) (by omega))) | ((have hb := BestI.done (i := x4.2) (by assumption) (by omega) (by omega); first | omega | (dsimp only; omega) | (dsimp only; rw [negc_put' (by omega) hb.2.2 (by omega)]; omega))), by first | omega | assumption | (simp only [List.length_append, List.length_cons, List.length_nil, List.length_replicate, put_len] at * <;> omega) | (exact negc_nil) | ((rw [negc_app]; omega)) | (exact BestI.nil) | ((dsimp only; omega)) | ((have hb := BestI.rng (by assumption); omega)) | ((dsimp only; exact BestI.take (by omega) (by omega))) | ((dsimp only; exact BestI.skip (by assumption) (by omega))) | ((have hb := BestI.done (i := x4.2) (by assumption) (by omega) (by omega); first | omega | (dsimp only; omega) | (dsimp only; rw [negc_put' (by omega) hb.2.2 (by omega)]; omega))), by first | omega | assumption | (simp only [List.length_append, List.length_cons, List.length_nil, List.length_replicate, put_len] at * <;> omega) | (exact negc_nil) | ((rw [negc_app]; omega)) | (exact BestI.nil) | ((dsimp only; omega)) | ((have hb := BestI.rng (by assumption); omega)) | ((dsimp only; exact BestI.take (by omega) (by omega))) | ((dsimp only; exact BestI.skip (by assumption) (by omega))) | ((have hb := BestI.done (i := x4.2) (by assumption) (by omega) (by omega); first | omega | (dsimp only; omega) | (dsimp only; rw [negc_put' (by omega) hb.2.2 (by omega)]; omega))), by first | omega | assumption | (simp only [List.length_append, List.length_cons, List.length_nil, List.length_replicate, put_len] at * <;> omega) | (exact negc_nil) | ((rw [negc_app]; omega)) | (exact BestI.nil) | ((dsimp only; omega)) | ((have hb := BestI.rng (by assumption); omega)) | ((dsimp only; exact BestI.take (by omega) (by omega))) | ((dsimp only; exact BestI.skip (by assumption) (by omega))) | ((have hb := BestI.done (i := x4.2) (by assumption) (by omega) (by omega); first | omega | (dsimp only; omega) | (dsimp only; rw [negc_put' (by omega) hb.2.2 (by omega)]; omega))), by first | omega | assumption | (simp only [List.length_append, List.length_cons, List.length_nil, List.length_replicate, put_len] at * <;> omega) | (exact negc_nil) | ((rw [negc_app]; omega)) | (exact BestI.nil) | ((dsimp only; omega)) | ((have hb := BestI.rng (by assumption); omega)) | ((dsimp only; exact BestI.take (by omega) (by omega))) | ((dsimp only; exact BestI.skip (by assumption) (by omega))) | ((have hb := BestI.done (i := x4.2) (by assumption) (by omega) (by omega); first | omega | (dsimp only; omega) | (dsimp only; rw [negc_put' (by omega) hb.2.2 (by omega)]; omega))), by first | omega | assumption | (simp only [List.length_append, List.length_cons, List.length_nil, List.length_replicate, put_len] at * <;> omega) | (exact negc_nil) | ((rw [negc_app]; omega)) | (exact BestI.nil) | ((dsimp only; omega)) | ((have hb := BestI.rng (by assumption); omega)) | ((dsimp only; exact BestI.take (by omega) (by omega))) | ((dsimp only; exact BestI.skip (by assumption) (by omega))) | ((have hb := BestI.done (i := x4.2) (by assumption) (by omega) (by omega); first | omega | (dsimp only; omega) | (dsimp only; rw [negc_put' (by omega) hb.2.2 (by omega)]; omega)))⟩ (by first | omega | assumption | (simp only [List.length_append, List.length_cons, List.length_nil, List.length_replicate, put_len] at * <;> omega) | (exact negc_nil) | ((rw [negc_app]; omega)) | (exact BestI.nil) | ((dsimp only; omega)) | ((have hb := BestI.rng (by assumption); omega)) | ((dsimp only; exact BestI.take (by omega) (by omega))) | ((dsimp only; exact BestI.skip (by assumption) (by omega))) | ((have hb := BestI.done (i := x4.2) (by assumption) (by omega) (by omega); first | omega | (dsimp only; omega) | (dsimp only; rw [negc_put' (by omega) hb.2.2 (by omega)]; omega)))) (sub_of [] ⟨rfl, rfl, rfl, rfl, rfl, trivial⟩ ⟨rfl, trivial⟩ rfl)
        · intro rec3 k3 hk9 x3 i10
          obtain ⟨e30, e31, e32, e33, e34, e35, e36, e37⟩ := i10
          try dsimp only at *
          refine run_seq ?_
          refine run_seq ?_
          refine run_region (q_move .n (.t rfl) rfl <|
              q_move .n (.t rfl) rfl <|
              q_int .n (.t rfl) (.t rfl) rfl rfl <|
              q_move .n (.t rfl) rfl <|
              q_move (.t rfl rfl) (.t rfl) rfl <|
              q_int (.t rfl rfl) (.u rfl id) (.c rfl) rfl rfl <|
              q_and .n (.t rfl) (.u rfl id) rfl <|
              Lex.nil) ?_
          refine run_cond (.t rfl) rfl (fun h11 => ?_) (fun h11 => ?_)
          · try simp only [Bool.and_eq_true, Bool.or_eq_true, Bool.not_eq_true', Bool.and_eq_false_iff, Bool.or_eq_false_iff, Bool.not_eq_false', decide_eq_true_eq, decide_eq_false_iff_not, beq_iff_eq, bne_iff_ne, beq_eq_false_iff_ne, bne_eq_false_iff_eq, Bool.true_and, ne_eq, Decidable.not_not, Int.not_lt, Int.not_le, Nat.not_lt, Nat.not_le, strB_nil, strB_nil', strB_nnil, strB_nnil'] at h11
            refine run_skip ?_
            refine run_seq ?_
            refine run_block ?_
            refine run_seq ?_
            refine run_region (q_assign .n (.c rfl) rfl <|
                Lex.nil) ?_
            refine run_seq ?_
            refine run_seq ?_
            refine run_region (q_assign .n (.c rfl) rfl <|
                Lex.nil) ?_
            refine run_block ?_
            refine run_LOOP (m_spec_l25Spread_b4 list from_ perDay x1 rec2 k2 x2 rec3 k3 x3) _ _ _ rfl (fun (x4 : Int × Int) => 0 ≤ x4.2 ∧ x4.2 ≤ (list.length : Int) ∧ BestI x3.1 x4.1 x4.2) (fun x4 => 0 ≤ x4.2 ∧ x4.2 ≤ (list.length : Int) ∧ BestI x3.1 x4.1 x4.2 ∧ (list.length : Int) ≤ x4.2) (fun x4 => ((list.length : Int) - x4.2 : Int).toNat) (fun x4 => ⟨[(0, some (true, .sl 3 (list.map gCheck.v))), (2, some (true, .int .i64 perDay)), (8, some (true, .os 200 x3.1.length)), (10, some (true, .int .i64 x3.2.1)), (11, some (true, .int .i64 x2.2.2)), (12, some (true, .int .i64 x3.2.2)), (13, some (true, .int .i64 x4.1)), (14, some (true, .int .i64 x4.2))], [(200, some (.row 2 1 (x3.1.map (V.int .i64))))]⟩) (fun x4 => ⟨[(0, some (true, .sl 3 (list.map gCheck.v))), (2, some (true, .int .i64 perDay)), (8, some (true, .os 200 x3.1.length)), (10, some (true, .int .i64 x3.2.1)), (11, some (true, .int .i64 x2.2.2)), (12, some (true, .int .i64 x3.2.2)), (13, some (true, .int .i64 x4.1))], [(200, some (.row 2 1 (x3.1.map (V.int .i64))))]⟩) ⟨by first | omega | assumption | (simp only [List.length_append, List.length_cons, List.length_nil, List.length_replicate, put_len] at * <;> omega) | (exact negc_nil) | ((rw [negc_app]; omega)) | (exact BestI.nil) | ((dsimp only; omega)) | ((have hb := BestI.rng (by assumption); omega)) | ((dsimp only; exact BestI.take (by omega) (by omega))) | ((dsimp only; exact BestI.skip (by assumption) (by omega))) | ((have hb := BestI.done (i := x4.2) (by assumption) (by omega) (by omega); first | omega | (dsimp only; omega) | (dsimp only; rw [negc_put' (by omega) hb.2.2 (by omega)]; omega))), by first | omega | assumption | (simp only [List.length_append, List.length_cons, List.length_nil, List.length_replicate, put_len] at * <;> omega) | (exact negc_nil) | ((rw [negc_app]; omega)) | (exact BestI.nil) | ((dsimp only; omega)) | ((have hb := BestI.rng (by assumption); omega)) | ((dsimp only; exact BestI.take (by omega) (by omega))) | ((dsimp only; exact BestI.skip (by assumption) (by omega))) | ((have hb := BestI.done (i := x4.2) (by assumption) (by omega) (by omega); first | omega | (dsimp only; omega) | (dsimp only; rw [negc_put' (by omega) hb.2.2 (by omega)]; omega))), by first | omega | assumption | (simp only [List.length_append, List.length_cons, List.length_nil, List.length_replicate, put_len] at * <;> omega) | (exact negc_nil) | ((rw [negc_app]; omega)) | (exact BestI.nil) | ((dsimp only; omega)) | ((have hb := BestI.rng (by assumption); omega)) | ((dsimp only; exact BestI.take (by omega) (by omega))) | ((dsimp only; exact BestI.skip (by assumption) (by omega))) | ((have hb := BestI.done (i := x4.2) (by assumption) (by omega) (by omega); first | omega | (dsimp only; omega) | (dsimp only; rw [negc_put' (by omega) hb.2.2 (by omega)]; omega)))⟩ (by first | omega | assumption | (simp only [List.length_append, List.length_cons, List.length_nil, List.length_replicate, put_len] at * <;> omega) | (exact negc_nil) | ((rw [negc_app]; omega)) | (exact BestI.nil) | ((dsimp only; omega)) | ((have hb := BestI.rng (by assumption); omega)) | ((dsimp only; exact BestI.take (by omega) (by omega))) | ((dsimp only; exact BestI.skip (by assumption) (by omega))) | ((have hb := BestI.done (i := x4.2) (by assumption) (by omega) (by omega); first | omega | (dsimp only; omega) | (dsimp only; rw [negc_put' (by omega) hb.2.2 (by omega)]; omega)))) (sub_of [] ⟨rfl, rfl, rfl, rfl, rfl, rfl, rfl, rfl, trivial⟩ ⟨rfl, trivial⟩ rfl) ?_ ?_
            · intro x4 i16
              obtain ⟨e18, e19, e20, e21⟩ := i16
              try dsimp only at *
              refine run_seq ?_
              refine run_seq ?_
              refine run_region (q_move .n (.t rfl) rfl <|
                  q_move .n (.t rfl) rfl <|
                  q_idx_rm .n (.t rfl) (.t rfl) sl_27 (fun _ => by first | omega | assumption | (simp only [List.length_append, List.length_cons, List.length_nil, List.length_replicate, put_len] at * <;> omega) | (exact negc_nil) | ((rw [negc_app]; omega)) | (exact BestI.nil) | ((dsimp only; omega)) | ((have hb := BestI.rng (by assumption); omega)) | ((dsimp only; exact BestI.take (by omega) (by omega))) | ((dsimp only; exact BestI.skip (by assumption) (by omega))) | ((have hb := BestI.done (i := x4.2) (by assumption) (by omega) (by omega); first | omega | (dsimp only; omega) | (dsimp only; rw [negc_put' (by omega) hb.2.2 (by omega)]; omega)))) rfl <|
                  q_call0 (full := false) .n .f en_94 (.cons (.t rfl) .nil) (.cons (.b (.a (.same rfl))) .nil) (fun hg => c_spec_l25Due (at' list x4.1)) rfl (fun h => Bool.noConfusion h) rfl <|
                  q_move .n (.t rfl) rfl <|
                  q_int .n (.t rfl) (.t rfl) rfl rfl <|
                  Lex.nil) ?_
              refine run_cond (.t rfl) rfl (fun h17 => ?_) (fun h17 => ?_)
              · try simp only [Bool.and_eq_true, Bool.or_eq_true, Bool.not_eq_true', Bool.and_eq_false_iff, Bool.or_eq_false_iff, Bool.not_eq_false', decide_eq_true_eq, decide_eq_false_iff_not, beq_iff_eq, bne_iff_ne, beq_eq_false_iff_ne, bne_eq_false_iff_eq, Bool.true_and, ne_eq, Decidable.not_not, Int.not_lt, Int.not_le, Nat.not_lt, Nat.not_le, strB_nil, strB_nil', strB_nnil, strB_nnil'] at h17
                refine run_seq ?_
                refine run_region (q_assign .n (.c rfl) rfl <|
                    q_assign .n (.c rfl) rfl <|
                    Lex.nil) ?_
                refine run_sub (sub_adopt (t := 6) (l := 203) (el := 2) (sz := 1) rfl rfl) ?_
                exact run_ret [(100, 203)] (.cons (.t rfl rfl) (.cons (.t rfl rfl) .nil)) (by first | rfl | (simp only [put_len]; rfl)) ⟨rfl, trivial⟩ rfl
              · try simp only [Bool.and_eq_true, Bool.or_eq_true, Bool.not_eq_true', Bool.and_eq_false_iff, Bool.or_eq_false_iff, Bool.not_eq_false', decide_eq_true_eq, decide_eq_false_iff_not, beq_iff_eq, bne_iff_ne, beq_eq_false_iff_ne, bne_eq_false_iff_eq, Bool.true_and, ne_eq, Decidable.not_not, Int.not_lt, Int.not_le, Nat.not_lt, Nat.not_le, strB_nil, strB_nil', strB_nnil, strB_nnil'] at h17
                refine run_skip ?_
                refine run_seq ?_
                refine run_region (q_move .n (.t rfl) rfl <|
                    q_move .n (.t rfl) rfl <|
                    q_move .n (.t rfl) rfl <|
                    q_idx_ow .n (.t rfl) (.t rfl) sl_24 (fun _ => by first | omega | assumption | (simp only [List.length_append, List.length_cons, List.length_nil, List.length_replicate, put_len] at * <;> omega) | (exact negc_nil) | ((rw [negc_app]; omega)) | (exact BestI.nil) | ((dsimp only; omega)) | ((have hb := BestI.rng (by assumption); omega)) | ((dsimp only; exact BestI.take (by omega) (by omega))) | ((dsimp only; exact BestI.skip (by assumption) (by omega))) | ((have hb := BestI.done (i := x4.2) (by assumption) (by omega) (by omega); first | omega | (dsimp only; omega) | (dsimp only; rw [negc_put' (by omega) hb.2.2 (by omega)]; omega)))) rfl <|
                    q_st_rowm x2.2.2 .n rfl (.t rfl) (.t rfl) rfl ts_2 (by first | omega | assumption | (simp only [List.length_append, List.length_cons, List.length_nil, List.length_replicate, put_len] at * <;> omega) | (exact negc_nil) | ((rw [negc_app]; omega)) | (exact BestI.nil) | ((dsimp only; omega)) | ((have hb := BestI.rng (by assumption); omega)) | ((dsimp only; exact BestI.take (by omega) (by omega))) | ((dsimp only; exact BestI.skip (by assumption) (by omega))) | ((have hb := BestI.done (i := x4.2) (by assumption) (by omega) (by omega); first | omega | (dsimp only; omega) | (dsimp only; rw [negc_put' (by omega) hb.2.2 (by omega)]; omega)))) rfl rfl <|
                    Lex.nil) ?_
                refine run_region (q_move .n (.t rfl) rfl <|
                    q_sub .n (.t rfl) (.c rfl) (fun _ => by first | omega | assumption | (simp only [List.length_append, List.length_cons, List.length_nil, List.length_replicate, put_len] at * <;> omega) | (exact negc_nil) | ((rw [negc_app]; omega)) | (exact BestI.nil) | ((dsimp only; omega)) | ((have hb := BestI.rng (by assumption); omega)) | ((dsimp only; exact BestI.take (by omega) (by omega))) | ((dsimp only; exact BestI.skip (by assumption) (by omega))) | ((have hb := BestI.done (i := x4.2) (by assumption) (by omega) (by omega); first | omega | (dsimp only; omega) | (dsimp only; rw [negc_put' (by omega) hb.2.2 (by omega)]; omega)))) rfl <|
                    q_assign .n (.t rfl) rfl <|
                    Lex.nil) ?_
                refine run_endB ?_
                refine run_region (q_move .n (.t rfl) rfl <|
                    q_add .n (.t rfl) (.c rfl) (fun _ => by first | omega | assumption | (simp only [List.length_append, List.length_cons, List.length_nil, List.length_replicate, put_len] at * <;> omega) | (exact negc_nil) | ((rw [negc_app]; omega)) | (exact BestI.nil) | ((dsimp only; omega)) | ((have hb := BestI.rng (by assumption); omega)) | ((dsimp only; exact BestI.take (by omega) (by omega))) | ((dsimp only; exact BestI.skip (by assumption) (by omega))) | ((have hb := BestI.done (i := x4.2) (by assumption) (by omega) (by omega); first | omega | (dsimp only; omega) | (dsimp only; rw [negc_put' (by omega) hb.2.2 (by omega)]; omega)))) rfl <|
                    q_assign .n (.t rfl) rfl <|
                    Lex.nil) ?_
                exact run_again (put' x3.1 x4.1 x2.2.2, x3.2.1 - 1, x3.2.2 + 1) ⟨by first | omega | assumption | (simp only [List.length_append, List.length_cons, List.length_nil, List.length_replicate, put_len] at * <;> omega) | (exact negc_nil) | ((rw [negc_app]; omega)) | (exact BestI.nil) | ((dsimp only; omega)) | ((have hb := BestI.rng (by assumption); omega)) | ((dsimp only; exact BestI.take (by omega) (by omega))) | ((dsimp only; exact BestI.skip (by assumption) (by omega))) | ((have hb := BestI.done (i := x4.2) (by assumption) (by omega) (by omega); first | omega | (dsimp only; omega) | (dsimp only; rw [negc_put' (by omega) hb.2.2 (by omega)]; omega))), by first | omega | assumption | (simp only [List.length_append, List.length_cons, List.length_nil, List.length_replicate, put_len] at * <;> omega) | (exact negc_nil) | ((rw [negc_app]; omega)) | (exact BestI.nil) | ((dsimp only; omega)) | ((have hb := BestI.rng (by assumption); omega)) | ((dsimp only; exact BestI.take (by omega) (by omega))) | ((dsimp only; exact BestI.skip (by assumption) (by omega))) | ((have hb := BestI.done (i := x4.2) (by assumption) (by omega) (by omega); first | omega | (dsimp only; omega) | (dsimp only; rw [negc_put' (by omega) hb.2.2 (by omega)]; omega))), by first | omega | assumption | (simp only [List.length_append, List.length_cons, List.length_nil, List.length_replicate, put_len] at * <;> omega) | (exact negc_nil) | ((rw [negc_app]; omega)) | (exact BestI.nil) | ((dsimp only; omega)) | ((have hb := BestI.rng (by assumption); omega)) | ((dsimp only; exact BestI.take (by omega) (by omega))) | ((dsimp only; exact BestI.skip (by assumption) (by omega))) | ((have hb := BestI.done (i := x4.2) (by assumption) (by omega) (by omega); first | omega | (dsimp only; omega) | (dsimp only; rw [negc_put' (by omega) hb.2.2 (by omega)]; omega))), by first | omega | assumption | (simp only [List.length_append, List.length_cons, List.length_nil, List.length_replicate, put_len] at * <;> omega) | (exact negc_nil) | ((rw [negc_app]; omega)) | (exact BestI.nil) | ((dsimp only; omega)) | ((have hb := BestI.rng (by assumption); omega)) | ((dsimp only; exact BestI.take (by omega) (by omega))) | ((dsimp only; exact BestI.skip (by assumption) (by omega))) | ((have hb := BestI.done (i := x4.2) (by assumption) (by omega) (by omega); first | omega | (dsimp only; omega) | (dsimp only; rw [negc_put' (by omega) hb.2.2 (by omega)]; omega))), by first | omega | assumption | (simp only [List.length_append, List.length_cons, List.length_nil, List.length_replicate, put_len] at * <;> omega) | (exact negc_nil) | ((rw [negc_app]; omega)) | (exact BestI.nil) | ((dsimp only; omega)) | ((have hb := BestI.rng (by assumption); omega)) | ((dsimp only; exact BestI.take (by omega) (by omega))) | ((dsimp only; exact BestI.skip (by assumption) (by omega))) | ((have hb := BestI.done (i := x4.2) (by assumption) (by omega) (by omega); first | omega | (dsimp only; omega) | (dsimp only; rw [negc_put' (by omega) hb.2.2 (by omega)]; omega))), by first | omega | assumption | (simp only [List.length_append, List.length_cons, List.length_nil, List.length_replicate, put_len] at * <;> omega) | (exact negc_nil) | ((rw [negc_app]; omega)) | (exact BestI.nil) | ((dsimp only; omega)) | ((have hb := BestI.rng (by assumption); omega)) | ((dsimp only; exact BestI.take (by omega) (by omega))) | ((dsimp only; exact BestI.skip (by assumption) (by omega))) | ((have hb := BestI.done (i := x4.2) (by assumption) (by omega) (by omega); first | omega | (dsimp only; omega) | (dsimp only; rw [negc_put' (by omega) hb.2.2 (by omega)]; omega))), by first | omega | assumption | (simp only [List.length_append, List.length_cons, List.length_nil, List.length_replicate, put_len] at * <;> omega) | (exact negc_nil) | ((rw [negc_app]; omega)) | (exact BestI.nil) | ((dsimp only; omega)) | ((have hb := BestI.rng (by assumption); omega)) | ((dsimp only; exact BestI.take (by omega) (by omega))) | ((dsimp only; exact BestI.skip (by assumption) (by omega))) | ((have hb := BestI.done (i := x4.2) (by assumption) (by omega) (by omega); first | omega | (dsimp only; omega) | (dsimp only; rw [negc_put' (by omega) hb.2.2 (by omega)]; omega))), by first | omega | assumption | (simp only [List.length_append, List.length_cons, List.length_nil, List.length_replicate, put_len] at * <;> omega) | (exact negc_nil) | ((rw [negc_app]; omega)) | (exact BestI.nil) | ((dsimp only; omega)) | ((have hb := BestI.rng (by assumption); omega)) | ((dsimp only; exact BestI.take (by omega) (by omega))) | ((dsimp only; exact BestI.skip (by assumption) (by omega))) | ((have hb := BestI.done (i := x4.2) (by assumption) (by omega) (by omega); first | omega | (dsimp only; omega) | (dsimp only; rw [negc_put' (by omega) hb.2.2 (by omega)]; omega)))⟩ (by first | omega | assumption | (simp only [List.length_append, List.length_cons, List.length_nil, List.length_replicate, put_len] at * <;> omega) | (exact negc_nil) | ((rw [negc_app]; omega)) | (exact BestI.nil) | ((dsimp only; omega)) | ((have hb := BestI.rng (by assumption); omega)) | ((dsimp only; exact BestI.take (by omega) (by omega))) | ((dsimp only; exact BestI.skip (by assumption) (by omega))) | ((have hb := BestI.done (i := x4.2) (by assumption) (by omega) (by omega); first | omega | (dsimp only; omega) | (dsimp only; rw [negc_put' (by omega) hb.2.2 (by omega)]; omega)))) (sub_of [] ⟨rfl, rfl, os_len rfl (by first | (simp only [put_len]; done) | (first | omega | assumption | (simp only [List.length_append, List.length_cons, List.length_nil, List.length_replicate, put_len] at * <;> omega) | (exact negc_nil) | ((rw [negc_app]; omega)) | (exact BestI.nil) | ((dsimp only; omega)) | ((have hb := BestI.rng (by assumption); omega)) | ((dsimp only; exact BestI.take (by omega) (by omega))) | ((dsimp only; exact BestI.skip (by assumption) (by omega))) | ((have hb := BestI.done (i := x4.2) (by assumption) (by omega) (by omega); first | omega | (dsimp only; omega) | (dsimp only; rw [negc_put' (by omega) hb.2.2 (by omega)]; omega))))), rfl, rfl, rfl, trivial⟩ ⟨rfl, trivial⟩ rfl)
            · intro rec4 k4 hk12 x4 i13
              obtain ⟨e22, e23, e24⟩ := i13
              try dsimp only at *
              refine run_seq ?_
              refine run_seq ?_
              refine run_region (q_move .n (.t rfl) rfl <|
                  q_move .n (.t rfl) rfl <|
                  q_len .n (.t rfl) rfl len_map ss_27 rfl <|
                  q_int .n (.t rfl) (.t rfl) rfl rfl <|
                  Lex.nil) ?_
              refine run_cond (.t rfl) rfl (fun h14 => ?_) (fun h14 => ?_)
              · try simp only [Bool.and_eq_true, Bool.or_eq_true, Bool.not_eq_true', Bool.and_eq_false_iff, Bool.or_eq_false_iff, Bool.not_eq_false', decide_eq_true_eq, decide_eq_false_iff_not, beq_iff_eq, bne_iff_ne, beq_eq_false_iff_ne, bne_eq_false_iff_eq, Bool.true_and, ne_eq, Decidable.not_not, Int.not_lt, Int.not_le, Nat.not_lt, Nat.not_le, strB_nil, strB_nil', strB_nnil, strB_nnil'] at h14
                refine run_skip ?_
                refine run_seq ?_
                refine run_block ?_
                refine run_seq ?_
                refine run_draw fmo (q_move .n (.t rfl) rfl <|
                    q_move .n (.t rfl) rfl <|
                    q_idx_ow .n (.t rfl) (.t rfl) sl_24 (fun _ => by first | omega | assumption | (simp only [List.length_append, List.length_cons, List.length_nil, List.length_replicate, put_len] at * <;> omega) | (exact negc_nil) | ((rw [negc_app]; omega)) | (exact BestI.nil) | ((dsimp only; omega)) | ((have hb := BestI.rng (by assumption); omega)) | ((dsimp only; exact BestI.take (by omega) (by omega))) | ((dsimp only; exact BestI.skip (by assumption) (by omega))) | ((have hb := BestI.done (i := x4.2) (by assumption) (by omega) (by omega); first | omega | (dsimp only; omega) | (dsimp only; rw [negc_put' (by omega) hb.2.2 (by omega)]; omega)))) rfl <|
                    q_ld1_row .n (.t rfl) rfl (fun _ => by first | omega | assumption | (simp only [List.length_append, List.length_cons, List.length_nil, List.length_replicate, put_len] at * <;> omega) | (exact negc_nil) | ((rw [negc_app]; omega)) | (exact BestI.nil) | ((dsimp only; omega)) | ((have hb := BestI.rng (by assumption); omega)) | ((dsimp only; exact BestI.take (by omega) (by omega))) | ((dsimp only; exact BestI.skip (by assumption) (by omega))) | ((have hb := BestI.done (i := x4.2) (by assumption) (by omega) (by omega); first | omega | (dsimp only; omega) | (dsimp only; rw [negc_put' (by omega) hb.2.2 (by omega)]; omega)))) rfl rfl rfl ic_2 rfl <|
                    q_int .n (.t rfl) (.c rfl) rfl rfl <|
                    q_move .n (.t rfl) rfl <|
                    q_move (.t rfl rfl) (.t rfl) rfl <|
                    q_int (.t rfl rfl) (.u rfl id) (.c rfl) rfl rfl <|
                    q_move (.t rfl rfl) (.u rfl id) rfl <|
                    q_move (.f rfl rfl) (.t rfl) rfl <|
                    q_move (.f rfl rfl) (.t rfl) rfl <|
                    q_idx_rm (.f rfl rfl) (.u rfl id) (.u rfl id) sl_27 (fun hg => by simp only [Bool.and_eq_true, Bool.or_eq_true, Bool.not_eq_true', Bool.and_eq_false_iff, Bool.or_eq_false_iff, Bool.not_eq_false', decide_eq_true_eq, decide_eq_false_iff_not, beq_iff_eq, bne_iff_ne, beq_eq_false_iff_ne, bne_eq_false_iff_eq, Bool.true_and, ne_eq, Decidable.not_not, Int.not_lt, Int.not_le, Nat.not_lt, Nat.not_le, strB_nil, strB_nil', strB_nnil, strB_nnil'] at hg; first | omega | assumption | (simp only [List.length_append, List.length_cons, List.length_nil, List.length_replicate, put_len] at * <;> omega) | (exact negc_nil) | ((rw [negc_app]; omega)) | (exact BestI.nil) | ((dsimp only; omega)) | ((have hb := BestI.rng (by assumption); omega)) | ((dsimp only; exact BestI.take (by omega) (by omega))) | ((dsimp only; exact BestI.skip (by assumption) (by omega))) | ((have hb := BestI.done (i := x4.2) (by assumption) (by omega) (by omega); first | omega | (dsimp only; omega) | (dsimp only; rw [negc_put' (by omega) hb.2.2 (by omega)]; omega)))) rfl <|
                    q_call0 (full := false) (.f rfl rfl) .f en_94 (.cons (.u rfl id) .nil) (.cons (.b (.a (.same rfl))) .nil) (fun hg => c_spec_l25Due (at' list x4.2)) rfl (fun h => Bool.noConfusion h) rfl <|
                    q_move (.f rfl rfl) (.t rfl) rfl <|
                    q_move (.f rfl rfl) (.t rfl) rfl <|
                    q_idx_rm (.f rfl rfl) (.u rfl id) (.u rfl id) sl_27 (fun hg => by simp only [Bool.and_eq_true, Bool.or_eq_true, Bool.not_eq_true', Bool.and_eq_false_iff, Bool.or_eq_false_iff, Bool.not_eq_false', decide_eq_true_eq, decide_eq_false_iff_not, beq_iff_eq, bne_iff_ne, beq_eq_false_iff_ne, bne_eq_false_iff_eq, Bool.true_and, ne_eq, Decidable.not_not, Int.not_lt, Int.not_le, Nat.not_lt, Nat.not_le, strB_nil, strB_nil', strB_nnil, strB_nnil'] at hg; first | omega | assumption | (simp only [List.length_append, List.length_cons, List.length_nil, List.length_replicate, put_len] at * <;> omega) | (exact negc_nil) | ((rw [negc_app]; omega)) | (exact BestI.nil) | ((dsimp only; omega)) | ((have hb := BestI.rng (by assumption); omega)) | ((dsimp only; exact BestI.take (by omega) (by omega))) | ((dsimp only; exact BestI.skip (by assumption) (by omega))) | ((have hb := BestI.done (i := x4.2) (by assumption) (by omega) (by omega); first | omega | (dsimp only; omega) | (dsimp only; rw [negc_put' (by omega) hb.2.2 (by omega)]; omega)))) rfl <|
                    q_call0 (full := false) (.f rfl rfl) .f en_94 (.cons (.u rfl id) .nil) (.cons (.b (.a (.same rfl))) .nil) (fun hg => c_spec_l25Due (at' list x4.1)) rfl (fun h => Bool.noConfusion h) rfl <|
                    q_int (.f rfl rfl) (.u rfl id) (.u rfl id) rfl rfl <|
                    q_or (.t rfl rfl) (.u rfl id) (.u rfl id) rfl <|
                    q_and .n (.t rfl) (.u rfl id) rfl <|
                    Lex.nil) (by kernel_rfl) ?_
                refine run_cond (.t rfl) rfl (fun h15 => ?_) (fun h15 => ?_)
                · try simp only [Bool.and_eq_true, Bool.or_eq_true, Bool.not_eq_true', Bool.and_eq_false_iff, Bool.or_eq_false_iff, Bool.not_eq_false', decide_eq_true_eq, decide_eq_false_iff_not, beq_iff_eq, bne_iff_ne, beq_eq_false_iff_ne, bne_eq_false_iff_eq, Bool.true_and, ne_eq, Decidable.not_not, Int.not_lt, Int.not_le, Nat.not_lt, Nat.not_le, strB_nil, strB_nil', strB_nnil, strB_nnil'] at h15
                  refine run_region (q_move .n (.t rfl) rfl <|
                      q_assign .n (.t rfl) rfl <|
                      Lex.nil) ?_
                  refine run_endB ?_
                  refine run_region (q_move .n (.t rfl) rfl <|
                      q_add .n (.t rfl) (.c rfl) (fun _ => by first | omega | assumption | (simp only [List.length_append, List.length_cons, List.length_nil, List.length_replicate, put_len] at * <;> omega) | (exact negc_nil) | ((rw [negc_app]; omega)) | (exact BestI.nil) | ((dsimp only; omega)) | ((have hb := BestI.rng (by assumption); omega)) | ((dsimp only; exact BestI.take (by omega) (by omega))) | ((dsimp only; exact BestI.skip (by assumption) (by omega))) | ((have hb := BestI.done (i := x4.2) (by assumption) (by omega) (by omega); first | omega | (dsimp only; omega) | (dsimp only; rw [negc_put' (by omega) hb.2.2 (by omega)]; omega)))) rfl <|
                      q_assign .n (.t rfl) rfl <|
                      Lex.nil) ?_
                  exact run_again (x4.2, x4.2 + 1) ⟨by first | omega | assumption | (simp only [List.length_append, List.length_cons, List.length_nil, List.length_replicate, put_len] at * <;> omega) | (exact negc_nil) | ((rw [negc_app]; omega)) | (exact BestI.nil) | ((dsimp only; omega)) | ((have hb := BestI.rng (by assumption); omega)) | ((dsimp only; exact BestI.take (by omega) (by omega))) | ((dsimp only; exact BestI.skip (by assumption) (by omega))) | ((have hb := BestI.done (i := x4.2) (by assumption) (by omega) (by omega); first | omega | (dsimp only; omega) | (dsimp only; rw [negc_put' (by omega) hb.2.2 (by omega)]; omega))), by first | omega | assumption | (simp only [List.length_append, List.length_cons, List.length_nil, List.length_replicate, put_len] at * <;> omega) | (exact negc_nil) | ((rw [negc_app]; omega)) | (exact BestI.nil) | ((dsimp only; omega)) | ((have hb := BestI.rng (by assumption); omega)) | ((dsimp only; exact BestI.take (by omega) (by omega))) | ((dsimp only; exact BestI.skip (by assumption) (by omega))) | ((have hb := BestI.done (i := x4.2) (by assumption) (by omega) (by omega); first | omega | (dsimp only; omega) | (dsimp only; rw [negc_put' (by omega) hb.2.2 (by omega)]; omega))), by first | omega | assumption | (simp only [List.length_append, List.length_cons, List.length_nil, List.length_replicate, put_len] at * <;> omega) | (exact negc_nil) | ((rw [negc_app]; omega)) | (exact BestI.nil) | ((dsimp only; omega)) | ((have hb := BestI.rng (by assumption); omega)) | ((dsimp only; exact BestI.take (by omega) (by omega))) | ((dsimp only; exact BestI.skip (by assumption) (by omega))) | ((have hb := BestI.done (i := x4.2) (by assumption) (by omega) (by omega); first | omega | (dsimp only; omega) | (dsimp only; rw [negc_put' (by omega) hb.2.2 (by omega)]; omega)))⟩ (by first | omega | assumption | (simp only [List.length_append, List.length_cons, List.length_nil, List.length_replicate, put_len] at * <;> omega) | (exact negc_nil) | ((rw [negc_app]; omega)) | (exact BestI.nil) | ((dsimp only; omega)) | ((have hb := BestI.rng (by assumption); omega)) | ((dsimp only; exact BestI.take (by omega) (by omega))) | ((dsimp only; exact BestI.skip (by assumption) (by omega))) | ((have hb := BestI.done (i := x4.2) (by assumption) (by omega) (by omega); first | omega | (dsimp only; omega) | (dsimp only; rw [negc_put' (by omega) hb.2.2 (by omega)]; omega)))) (sub_of [] ⟨rfl, rfl, rfl, rfl, rfl, rfl, rfl, rfl, trivial⟩ ⟨rfl, trivial⟩ rfl)
                · try simp only [Bool.and_eq_true, Bool.or_eq_true, Bool.not_eq_true', Bool.and_eq_false_iff, Bool.or_eq_false_iff, Bool.not_eq_false', decide_eq_true_eq, decide_eq_false_iff_not, beq_iff_eq, bne_iff_ne, beq_eq_false_iff_ne, bne_eq_false_iff_eq, Bool.true_and, ne_eq, Decidable.not_not, Int.not_lt, Int.not_le, Nat.not_lt, Nat.not_le, strB_nil, strB_nil', strB_nnil, strB_nnil'] at h15
                  refine run_skip ?_
                  refine run_endB ?_
                  refine run_region (q_move .n (.t rfl) rfl <|
                      q_add .n (.t rfl) (.c rfl) (fun _ => by first | omega | assumption | (simp only [List.length_append, List.length_cons, List.length_nil, List.length_replicate, put_len] at * <;> omega) | (exact negc_nil) | ((rw [negc_app]; omega)) | (exact BestI.nil) | ((dsimp only; omega)) | ((have hb := BestI.rng (by assumption); omega)) | ((dsimp only; exact BestI.take (by omega) (by omega))) | ((dsimp only; exact BestI.skip (by assumption) (by omega))) | ((have hb := BestI.done (i := x4.2) (by assumption) (by omega) (by omega); first | omega | (dsimp only; omega) | (dsimp only; rw [negc_put' (by omega) hb.2.2 (by omega)]; omega)))) rfl <|
                      q_assign .n (.t rfl) rfl <|
                      Lex.nil) ?_
                  exact run_again (x4.1, x4.2 + 1) ⟨by first | omega | assumption | (simp only [List.length_append, List.length_cons, List.length_nil, List.length_replicate, put_len] at * <;> omega) | (exact negc_nil) | ((rw [negc_app]; omega)) | (exact BestI.nil) | ((dsimp only; omega)) | ((have hb := BestI.rng (by assumption); omega)) | ((dsimp only; exact BestI.take (by omega) (by omega))) | ((dsimp only; exact BestI.skip (by assumption) (by omega))) | ((have hb := BestI.done (i := x4.2) (by assumption) (by omega) (by omega); first | omega | (dsimp only; omega) | (dsimp only; rw [negc_put' (by omega) hb.2.2 (by omega)]; omega))), by first | omega | assumption | (simp only [List.length_append, List.length_cons, List.length_nil, List.length_replicate, put_len] at * <;> omega) | (exact negc_nil) | ((rw [negc_app]; omega)) | (exact BestI.nil) | ((dsimp only; omega)) | ((have hb := BestI.rng (by assumption); omega)) | ((dsimp only; exact BestI.take (by omega) (by omega))) | ((dsimp only; exact BestI.skip (by assumption) (by omega))) | ((have hb := BestI.done (i := x4.2) (by assumption) (by omega) (by omega); first | omega | (dsimp only; omega) | (dsimp only; rw [negc_put' (by omega) hb.2.2 (by omega)]; omega))), by first | omega | assumption | (simp only [List.length_append, List.length_cons, List.length_nil, List.length_replicate, put_len] at * <;> omega) | (exact negc_nil) | ((rw [negc_app]; omega)) | (exact BestI.nil) | ((dsimp only; omega)) | ((have hb := BestI.rng (by assumption); omega)) | ((dsimp only; exact BestI.take (by omega) (by omega))) | ((dsimp only; exact BestI.skip (by assumption) (by omega))) | ((have hb := BestI.done (i := x4.2) (by assumption) (by omega) (by omega); first | omega | (dsimp only; omega) | (dsimp only; rw [negc_put' (by omega) hb.2.2 (by omega)]; omega)))⟩ (by first | omega | assumption | (simp only [List.length_append, List.length_cons, List.length_nil, List.length_replicate, put_len] at * <;> omega) | (exact negc_nil) | ((rw [negc_app]; omega)) | (exact BestI.nil) | ((dsimp only; omega)) | ((have hb := BestI.rng (by assumption); omega)) | ((dsimp only; exact BestI.take (by omega) (by omega))) | ((dsimp only; exact BestI.skip (by assumption) (by omega))) | ((have hb := BestI.done (i := x4.2) (by assumption) (by omega) (by omega); first | omega | (dsimp only; omega) | (dsimp only; rw [negc_put' (by omega) hb.2.2 (by omega)]; omega)))) (sub_of [] ⟨rfl, rfl, rfl, rfl, rfl, rfl, rfl, rfl, trivial⟩ ⟨rfl, trivial⟩ rfl)
              · try simp only [Bool.and_eq_true, Bool.or_eq_true, Bool.not_eq_true', Bool.and_eq_false_iff, Bool.or_eq_false_iff, Bool.not_eq_false', decide_eq_true_eq, decide_eq_false_iff_not, beq_iff_eq, bne_iff_ne, beq_eq_false_iff_ne, bne_eq_false_iff_eq, Bool.true_and, ne_eq, Decidable.not_not, Int.not_lt, Int.not_le, Nat.not_lt, Nat.not_le, strB_nil, strB_nil', strB_nnil, strB_nnil'] at h14
                refine run_exit rfl ?_
                exact run_cont hk12 (x4.1, x4.2) ⟨by first | omega | assumption | (simp only [List.length_append, List.length_cons, List.length_nil, List.length_replicate, put_len] at * <;> omega) | (exact negc_nil) | ((rw [negc_app]; omega)) | (exact BestI.nil) | ((dsimp only; omega)) | ((have hb := BestI.rng (by assumption); omega)) | ((dsimp only; exact BestI.take (by omega) (by omega))) | ((dsimp only; exact BestI.skip (by assumption) (by omega))) | ((have hb := BestI.done (i := x4.2) (by assumption) (by omega) (by omega); first | omega | (dsimp only; omega) | (dsimp only; rw [negc_put' (by omega) hb.2.2 (by omega)]; omega))), by first | omega | assumption | (simp only [List.length_append, List.length_cons, List.length_nil, List.length_replicate, put_len] at * <;> omega) | (exact negc_nil) | ((rw [negc_app]; omega)) | (exact BestI.nil) | ((dsimp only; omega)) | ((have hb := BestI.rng (by assumption); omega)) | ((dsimp only; exact BestI.take (by omega) (by omega))) | ((dsimp only; exact BestI.skip (by assumption) (by omega))) | ((have hb := BestI.done (i := x4.2) (by assumption) (by omega) (by omega); first | omega | (dsimp only; omega) | (dsimp only; rw [negc_put' (by omega) hb.2.2 (by omega)]; omega))), by first | omega | assumption | (simp only [List.length_append, List.length_cons, List.length_nil, List.length_replicate, put_len] at * <;> omega) | (exact negc_nil) | ((rw [negc_app]; omega)) | (exact BestI.nil) | ((dsimp only; omega)) | ((have hb := BestI.rng (by assumption); omega)) | ((dsimp only; exact BestI.take (by omega) (by omega))) | ((dsimp only; exact BestI.skip (by assumption) (by omega))) | ((have hb := BestI.done (i := x4.2) (by assumption) (by omega) (by omega); first | omega | (dsimp only; omega) | (dsimp only; rw [negc_put' (by omega) hb.2.2 (by omega)]; omega))), by first | omega | assumption | (simp only [List.length_append, List.length_cons, List.length_nil, List.length_replicate, put_len] at * <;> omega) | (exact negc_nil) | ((rw [negc_app]; omega)) | (exact BestI.nil) | ((dsimp only; omega)) | ((have hb := BestI.rng (by assumption); omega)) | ((dsimp only; exact BestI.take (by omega) (by omega))) | ((dsimp only; exact BestI.skip (by assumption) (by omega))) | ((have hb := BestI.done (i := x4.2) (by assumption) (by omega) (by omega); first | omega | (dsimp only; omega) | (dsimp only; rw [negc_put' (by omega) hb.2.2 (by omega)]; omega)))⟩ (sub_of [] ⟨rfl, rfl, rfl, rfl, rfl, rfl, rfl, trivial⟩ ⟨rfl, trivial⟩ rfl)
          · try simp only [Bool.and_eq_true, Bool.or_eq_true, Bool.not_eq_true', Bool.and_eq_false_iff, Bool.or_eq_false_iff, Bool.not_eq_false', decide_eq_true_eq, decide_eq_false_iff_not, beq_iff_eq, bne_iff_ne, beq_eq_false_iff_ne, bne_eq_false_iff_eq, Bool.true_and, ne_eq, Decidable.not_not, Int.not_lt, Int.not_le, Nat.not_lt, Nat.not_le, strB_nil, strB_nil', strB_nnil, strB_nnil'] at h11
            refine run_exit rfl ?_
            exact run_cont hk9 (x3.1, x3.2.1, x3.2.2) ⟨by first | omega | assumption | (simp only [List.length_append, List.length_cons, List.length_nil, List.length_replicate, put_len] at * <;> omega) | (exact negc_nil) | ((rw [negc_app]; omega)) | (exact BestI.nil) | ((dsimp only; omega)) | ((have hb := BestI.rng (by assumption); omega)) | ((dsimp only; exact BestI.take (by omega) (by omega))) | ((dsimp only; exact BestI.skip (by assumption) (by omega))) | ((have hb := BestI.done (i := x4.2) (by assumption) (by omega) (by omega); first | omega | (dsimp only; omega) | (dsimp only; rw [negc_put' (by omega) hb.2.2 (by omega)]; omega))), by first | omega | assumption | (simp only [List.length_append, List.length_cons, List.length_nil, List.length_replicate, put_len] at * <;> omega) | (exact negc_nil) | ((rw [negc_app]; omega)) | (exact BestI.nil) | ((dsimp only; omega)) | ((have hb := BestI.rng (by assumption); omega)) | ((dsimp only; exact BestI.take (by omega) (by omega))) | ((dsimp only; exact BestI.skip (by assumption) (by omega))) | ((have hb := BestI.done (i := x4.2) (by assumption) (by omega) (by omega); first | omega | (dsimp only; omega) | (dsimp only; rw [negc_put' (by omega) hb.2.2 (by omega)]; omega))), by first | omega | assumption | (simp only [List.length_append, List.length_cons, List.length_nil, List.length_replicate, put_len] at * <;> omega) | (exact negc_nil) | ((rw [negc_app]; omega)) | (exact BestI.nil) | ((dsimp only; omega)) | ((have hb := BestI.rng (by assumption); omega)) | ((dsimp only; exact BestI.take (by omega) (by omega))) | ((dsimp only; exact BestI.skip (by assumption) (by omega))) | ((have hb := BestI.done (i := x4.2) (by assumption) (by omega) (by omega); first | omega | (dsimp only; omega) | (dsimp only; rw [negc_put' (by omega) hb.2.2 (by omega)]; omega))), by first | omega | assumption | (simp only [List.length_append, List.length_cons, List.length_nil, List.length_replicate, put_len] at * <;> omega) | (exact negc_nil) | ((rw [negc_app]; omega)) | (exact BestI.nil) | ((dsimp only; omega)) | ((have hb := BestI.rng (by assumption); omega)) | ((dsimp only; exact BestI.take (by omega) (by omega))) | ((dsimp only; exact BestI.skip (by assumption) (by omega))) | ((have hb := BestI.done (i := x4.2) (by assumption) (by omega) (by omega); first | omega | (dsimp only; omega) | (dsimp only; rw [negc_put' (by omega) hb.2.2 (by omega)]; omega)))⟩ (sub_of [] ⟨rfl, rfl, rfl, rfl, rfl, trivial⟩ ⟨rfl, trivial⟩ rfl)
      · try simp only [Bool.and_eq_true, Bool.or_eq_true, Bool.not_eq_true', Bool.and_eq_false_iff, Bool.or_eq_false_iff, Bool.not_eq_false', decide_eq_true_eq, decide_eq_false_iff_not, beq_iff_eq, bne_iff_ne, beq_eq_false_iff_ne, bne_eq_false_iff_eq, Bool.true_and, ne_eq, Decidable.not_not, Int.not_lt, Int.not_le, Nat.not_lt, Nat.not_le, strB_nil, strB_nil', strB_nnil, strB_nnil'] at h8
        refine run_exit rfl ?_
        exact run_cont hk6 (x2.1, x2.2.1, x2.2.2) ⟨by first | omega | assumption | (simp only [List.length_append, List.length_cons, List.length_nil, List.length_replicate, put_len] at * <;> omega) | (exact negc_nil) | ((rw [negc_app]; omega)) | (exact BestI.nil) | ((dsimp only; omega)) | ((have hb := BestI.rng (by assumption); omega)) | ((dsimp only; exact BestI.take (by omega) (by omega))) | ((dsimp only; exact BestI.skip (by assumption) (by omega))) | ((have hb := BestI.done (i := x4.2) (by assumption) (by omega) (by omega); first | omega | (dsimp only; omega) | (dsimp only; rw [negc_put' (by omega) hb.2.2 (by omega)]; omega))), by first | omega | assumption | (simp only [List.length_append, List.length_cons, List.length_nil, List.length_replicate, put_len] at * <;> omega) | (exact negc_nil) | ((rw [negc_app]; omega)) | (exact BestI.nil) | ((dsimp only; omega)) | ((have hb := BestI.rng (by assumption); omega)) | ((dsimp only; exact BestI.take (by omega) (by omega))) | ((dsimp only; exact BestI.skip (by assumption) (by omega))) | ((have hb := BestI.done (i := x4.2) (by assumption) (by omega) (by omega); first | omega | (dsimp only; omega) | (dsimp only; rw [negc_put' (by omega) hb.2.2 (by omega)]; omega))), by first | omega | assumption | (simp only [List.length_append, List.length_cons, List.length_nil, List.length_replicate, put_len] at * <;> omega) | (exact negc_nil) | ((rw [negc_app]; omega)) | (exact BestI.nil) | ((dsimp only; omega)) | ((have hb := BestI.rng (by assumption); omega)) | ((dsimp only; exact BestI.take (by omega) (by omega))) | ((dsimp only; exact BestI.skip (by assumption) (by omega))) | ((have hb := BestI.done (i := x4.2) (by assumption) (by omega) (by omega); first | omega | (dsimp only; omega) | (dsimp only; rw [negc_put' (by omega) hb.2.2 (by omega)]; omega))), by first | omega | assumption | (simp only [List.length_append, List.length_cons, List.length_nil, List.length_replicate, put_len] at * <;> omega) | (exact negc_nil) | ((rw [negc_app]; omega)) | (exact BestI.nil) | ((dsimp only; omega)) | ((have hb := BestI.rng (by assumption); omega)) | ((dsimp only; exact BestI.take (by omega) (by omega))) | ((dsimp only; exact BestI.skip (by assumption) (by omega))) | ((have hb := BestI.done (i := x4.2) (by assumption) (by omega) (by omega); first | omega | (dsimp only; omega) | (dsimp only; rw [negc_put' (by omega) hb.2.2 (by omega)]; omega))), by first | omega | assumption | (simp only [List.length_append, List.length_cons, List.length_nil, List.length_replicate, put_len] at * <;> omega) | (exact negc_nil) | ((rw [negc_app]; omega)) | (exact BestI.nil) | ((dsimp only; omega)) | ((have hb := BestI.rng (by assumption); omega)) | ((dsimp only; exact BestI.take (by omega) (by omega))) | ((dsimp only; exact BestI.skip (by assumption) (by omega))) | ((have hb := BestI.done (i := x4.2) (by assumption) (by omega) (by omega); first | omega | (dsimp only; omega) | (dsimp only; rw [negc_put' (by omega) hb.2.2 (by omega)]; omega))), by first | omega | assumption | (simp only [List.length_append, List.length_cons, List.length_nil, List.length_replicate, put_len] at * <;> omega) | (exact negc_nil) | ((rw [negc_app]; omega)) | (exact BestI.nil) | ((dsimp only; omega)) | ((have hb := BestI.rng (by assumption); omega)) | ((dsimp only; exact BestI.take (by omega) (by omega))) | ((dsimp only; exact BestI.skip (by assumption) (by omega))) | ((have hb := BestI.done (i := x4.2) (by assumption) (by omega) (by omega); first | omega | (dsimp only; omega) | (dsimp only; rw [negc_put' (by omega) hb.2.2 (by omega)]; omega))), by first | omega | assumption | (simp only [List.length_append, List.length_cons, List.length_nil, List.length_replicate, put_len] at * <;> omega) | (exact negc_nil) | ((rw [negc_app]; omega)) | (exact BestI.nil) | ((dsimp only; omega)) | ((have hb := BestI.rng (by assumption); omega)) | ((dsimp only; exact BestI.take (by omega) (by omega))) | ((dsimp only; exact BestI.skip (by assumption) (by omega))) | ((have hb := BestI.done (i := x4.2) (by assumption) (by omega) (by omega); first | omega | (dsimp only; omega) | (dsimp only; rw [negc_put' (by omega) hb.2.2 (by omega)]; omega)))⟩ (sub_of [] ⟨rfl, trivial⟩ ⟨rfl, trivial⟩ rfl)
  · intro rec1 k1 hk2 x1 i3
    obtain ⟨e59, e60, e61, e62, e63⟩ := i3
    try dsimp only at *
    refine run_seq ?_
    refine run_seq ?_
    refine run_region (q_move .n (.t rfl) rfl <|
        q_move .n (.t rfl) rfl <|
        q_len .n (.t rfl) rfl len_map ss_27 rfl <|
        q_int .n (.t rfl) (.t rfl) rfl rfl <|
        Lex.nil) ?_
    refine run_cond (.t rfl) rfl (fun h4 => ?_) (fun h4 => ?_)
    · try simp only [Bool.and_eq_true, Bool.or_eq_true, Bool.not_eq_true', Bool.and_eq_false_iff, Bool.or_eq_false_iff, Bool.not_eq_false', decide_eq_true_eq, decide_eq_false_iff_not, beq_iff_eq, bne_iff_ne, beq_eq_false_iff_ne, bne_eq_false_iff_eq, Bool.true_and, ne_eq, Decidable.not_not, Int.not_lt, Int.not_le, Nat.not_lt, Nat.not_le, strB_nil, strB_nil', strB_nnil, strB_nnil'] at h4
      refine run_skip ?_
      refine run_seq ?_
      refine run_block ?_
      refine run_region (q_move .n (.t rfl) rfl <|
          q_bslicem ([(-1)] : List Int) (f := V.int .i64) (l := 201) .n rfl rfl (.cons (.c rfl) .nil) rfl si_24 zv_2 rfl rfl rfl <|
          q_appm (xs := x1.1) (ys := ([(-1)] : List Int)) (f := V.int .i64) (l := 202) .n rfl (.ow (.t rfl) rfl (take_all (by simp only [len_map, put_len] <;> rfl)) (by simp only [len_map, put_len] <;> rfl)) (.ow (.t rfl) rfl (take_all (by simp only [len_map, put_len] <;> rfl)) (by simp only [len_map, put_len] <;> rfl)) si_24 zv_2 rfl (by first | omega | assumption | (simp only [List.length_append, List.length_cons, List.length_nil, List.length_replicate, put_len] at * <;> omega) | (exact negc_nil) | ((rw [negc_app]; omega)) | (exact BestI.nil) | ((dsimp only; omega)) | ((have hb := BestI.rng (by assumption); omega)) | ((dsimp only; exact BestI.take (by omega) (by omega))) | ((dsimp only; exact BestI.skip (by assumption) (by omega))) | ((have hb := BestI.done (i := x4.2) (by assumption) (by omega) (by omega); first | omega | (dsimp only; omega) | (dsimp only; rw [negc_put' (by omega) hb.2.2 (by omega)]; omega)))) rfl rfl <|
          q_assign .n (.t rfl) rfl <|
          Lex.nil) ?_
      refine run_endB ?_
      refine run_region (q_move .n (.t rfl) rfl <|
          q_add .n (.t rfl) (.c rfl) (fun _ => by first | omega | assumption | (simp only [List.length_append, List.length_cons, List.length_nil, List.length_replicate, put_len] at * <;> omega) | (exact negc_nil) | ((rw [negc_app]; omega)) | (exact BestI.nil) | ((dsimp only; omega)) | ((have hb := BestI.rng (by assumption); omega)) | ((dsimp only; exact BestI.take (by omega) (by omega))) | ((dsimp only; exact BestI.skip (by assumption) (by omega))) | ((have hb := BestI.done (i := x4.2) (by assumption) (by omega) (by omega); first | omega | (dsimp only; omega) | (dsimp only; rw [negc_put' (by omega) hb.2.2 (by omega)]; omega)))) rfl <|
          q_assign .n (.t rfl) rfl <|
          Lex.nil) ?_
      exact run_again (x1.1 ++ ([(-1)] : List Int), x1.2 + 1) ⟨by first | omega | assumption | (simp only [List.length_append, List.length_cons, List.length_nil, List.length_replicate, put_len] at * <;> omega) | (exact negc_nil) | ((rw [negc_app]; omega)) | (exact BestI.nil) | ((dsimp only; omega)) | ((have hb := BestI.rng (by assumption); omega)) | ((dsimp only; exact BestI.take (by omega) (by omega))) | ((dsimp only; exact BestI.skip (by assumption) (by omega))) | ((have hb := BestI.done (i := x4.2) (by assumption) (by omega) (by omega); first | omega | (dsimp only; omega) | (dsimp only; rw [negc_put' (by omega) hb.2.2 (by omega)]; omega))), by first | omega | assumption | (simp only [List.length_append, List.length_cons, List.length_nil, List.length_replicate, put_len] at * <;> omega) | (exact negc_nil) | ((rw [negc_app]; omega)) | (exact BestI.nil) | ((dsimp only; omega)) | ((have hb := BestI.rng (by assumption); omega)) | ((dsimp only; exact BestI.take (by omega) (by omega))) | ((dsimp only; exact BestI.skip (by assumption) (by omega))) | ((have hb := BestI.done (i := x4.2) (by assumption) (by omega) (by omega); first | omega | (dsimp only; omega) | (dsimp only; rw [negc_put' (by omega) hb.2.2 (by omega)]; omega))), by first | omega | assumption | (simp only [List.length_append, List.length_cons, List.length_nil, List.length_replicate, put_len] at * <;> omega) | (exact negc_nil) | ((rw [negc_app]; omega)) | (exact BestI.nil) | ((dsimp only; omega)) | ((have hb := BestI.rng (by assumption); omega)) | ((dsimp only; exact BestI.take (by omega) (by omega))) | ((dsimp only; exact BestI.skip (by assumption) (by omega))) | ((have hb := BestI.done (i := x4.2) (by assumption) (by omega) (by omega); first | omega | (dsimp only; omega) | (dsimp only; rw [negc_put' (by omega) hb.2.2 (by omega)]; omega))), by first | omega | assumption | (simp only [List.length_append, List.length_cons, List.length_nil, List.length_replicate, put_len] at * <;> omega) | (exact negc_nil) | ((rw [negc_app]; omega)) | (exact BestI.nil) | ((dsimp only; omega)) | ((have hb := BestI.rng (by assumption); omega)) | ((dsimp only; exact BestI.take (by omega) (by omega))) | ((dsimp only; exact BestI.skip (by assumption) (by omega))) | ((have hb := BestI.done (i := x4.2) (by assumption) (by omega) (by omega); first | omega | (dsimp only; omega) | (dsimp only; rw [negc_put' (by omega) hb.2.2 (by omega)]; omega))), by first | omega | assumption | (simp only [List.length_append, List.length_cons, List.length_nil, List.length_replicate, put_len] at * <;> omega) | (exact negc_nil) | ((rw [negc_app]; omega)) | (exact BestI.nil) | ((dsimp only; omega)) | ((have hb := BestI.rng (by assumption); omega)) | ((dsimp only; exact BestI.take (by omega) (by omega))) | ((dsimp only; exact BestI.skip (by assumption) (by omega))) | ((have hb := BestI.done (i := x4.2) (by assumption) (by omega) (by omega); first | omega | (dsimp only; omega) | (dsimp only; rw [negc_put' (by omega) hb.2.2 (by omega)]; omega)))⟩ (by first | omega | assumption | (simp only [List.length_append, List.length_cons, List.length_nil, List.length_replicate, put_len] at * <;> omega) | (exact negc_nil) | ((rw [negc_app]; omega)) | (exact BestI.nil) | ((dsimp only; omega)) | ((have hb := BestI.rng (by assumption); omega)) | ((dsimp only; exact BestI.take (by omega) (by omega))) | ((dsimp only; exact BestI.skip (by assumption) (by omega))) | ((have hb := BestI.done (i := x4.2) (by assumption) (by omega) (by omega); first | omega | (dsimp only; omega) | (dsimp only; rw [negc_put' (by omega) hb.2.2 (by omega)]; omega)))) (sub_of [(200, 202)] ⟨rfl, rfl, rfl, rfl, rfl, trivial⟩ ⟨rfl, trivial⟩ rfl)
    · try simp only [Bool.and_eq_true, Bool.or_eq_true, Bool.not_eq_true', Bool.and_eq_false_iff, Bool.or_eq_false_iff, Bool.not_eq_false', decide_eq_true_eq, decide_eq_false_iff_not, beq_iff_eq, bne_iff_ne, beq_eq_false_iff_ne, bne_eq_false_iff_eq, Bool.true_and, ne_eq, Decidable.not_not, Int.not_lt, Int.not_le, Nat.not_lt, Nat.not_le, strB_nil, strB_nil', strB_nnil, strB_nnil'] at h4
      refine run_exit rfl ?_
      exact run_cont hk2 (x1.1, x1.2) ⟨by first | omega | assumption | (simp only [List.length_append, List.length_cons, List.length_nil, List.length_replicate, put_len] at * <;> omega) | (exact negc_nil) | ((rw [negc_app]; omega)) | (exact BestI.nil) | ((dsimp only; omega)) | ((have hb := BestI.rng (by assumption); omega)) | ((dsimp only; exact BestI.take (by omega) (by omega))) | ((dsimp only; exact BestI.skip (by assumption) (by omega))) | ((have hb := BestI.done (i := x4.2) (by assumption) (by omega) (by omega); first | omega | (dsimp only; omega) | (dsimp only; rw [negc_put' (by omega) hb.2.2 (by omega)]; omega))), by first | omega | assumption | (simp only [List.length_append, List.length_cons, List.length_nil, List.length_replicate, put_len] at * <;> omega) | (exact negc_nil) | ((rw [negc_app]; omega)) | (exact BestI.nil) | ((dsimp only; omega)) | ((have hb := BestI.rng (by assumption); omega)) | ((dsimp only; exact BestI.take (by omega) (by omega))) | ((dsimp only; exact BestI.skip (by assumption) (by omega))) | ((have hb := BestI.done (i := x4.2) (by assumption) (by omega) (by omega); first | omega | (dsimp only; omega) | (dsimp only; rw [negc_put' (by omega) hb.2.2 (by omega)]; omega))), by first | omega | assumption | (simp only [List.length_append, List.length_cons, List.length_nil, List.length_replicate, put_len] at * <;> omega) | (exact negc_nil) | ((rw [negc_app]; omega)) | (exact BestI.nil) | ((dsimp only; omega)) | ((have hb := BestI.rng (by assumption); omega)) | ((dsimp only; exact BestI.take (by omega) (by omega))) | ((dsimp only; exact BestI.skip (by assumption) (by omega))) | ((have hb := BestI.done (i := x4.2) (by assumption) (by omega) (by omega); first | omega | (dsimp only; omega) | (dsimp only; rw [negc_put' (by omega) hb.2.2 (by omega)]; omega))), by first | omega | assumption | (simp only [List.length_append, List.length_cons, List.length_nil, List.length_replicate, put_len] at * <;> omega) | (exact negc_nil) | ((rw [negc_app]; omega)) | (exact BestI.nil) | ((dsimp only; omega)) | ((have hb := BestI.rng (by assumption); omega)) | ((dsimp only; exact BestI.take (by omega) (by omega))) | ((dsimp only; exact BestI.skip (by assumption) (by omega))) | ((have hb := BestI.done (i := x4.2) (by assumption) (by omega) (by omega); first | omega | (dsimp only; omega) | (dsimp only; rw [negc_put' (by omega) hb.2.2 (by omega)]; omega))), by first | omega | assumption | (simp only [List.length_append, List.length_cons, List.length_nil, List.length_replicate, put_len] at * <;> omega) | (exact negc_nil) | ((rw [negc_app]; omega)) | (exact BestI.nil) | ((dsimp only; omega)) | ((have hb := BestI.rng (by assumption); omega)) | ((dsimp only; exact BestI.take (by omega) (by omega))) | ((dsimp only; exact BestI.skip (by assumption) (by omega))) | ((have hb := BestI.done (i := x4.2) (by assumption) (by omega) (by omega); first | omega | (dsimp only; omega) | (dsimp only; rw [negc_put' (by omega) hb.2.2 (by omega)]; omega))), by first | omega | assumption | (simp only [List.length_append, List.length_cons, List.length_nil, List.length_replicate, put_len] at * <;> omega) | (exact negc_nil) | ((rw [negc_app]; omega)) | (exact BestI.nil) | ((dsimp only; omega)) | ((have hb := BestI.rng (by assumption); omega)) | ((dsimp only; exact BestI.take (by omega) (by omega))) | ((dsimp only; exact BestI.skip (by assumption) (by omega))) | ((have hb := BestI.done (i := x4.2) (by assumption) (by omega) (by omega); first | omega | (dsimp only; omega) | (dsimp only; rw [negc_put' (by omega) hb.2.2 (by omega)]; omega)))⟩ (sub_of [] ⟨rfl, rfl, rfl, rfl, trivial⟩ ⟨rfl, trivial⟩ rfl)

/-! ### spec_SpreadChecks -/
theorem c_spec_SpreadChecks (list : List gCheck) (from_ : Int) (perDay : Int) : Con Try.prog 8 [.sl 3 (list.map gCheck.v), .int .i64 from_, .int .i64 perDay] [] (.tup [.os 100 (m_spec_SpreadChecks list from_ perDay).1.length, .int .i64 (m_spec_SpreadChecks list from_ perDay).2]) ([(100, some (.row 2 1 ((m_spec_SpreadChecks list from_ perDay).1.map (V.int .i64))))]) := by
  refine con_intro (out := fun r : (List Int) × Int => ((.tup [.os 100 r.1.length, .int .i64 r.2] : V), ([(100, some (.row 2 1 (r.1.map (V.int .i64))))] : List (Nat × Option O)))) (r := (m_spec_SpreadChecks list from_ perDay)) Try.func8 rfl Try.ntmps8 rfl ?_
  refine run_fact (t := 0) rfl fun hl => ?_
  have l1 := hl; clear hl; simp only [List.length_map] at l1
  refine run_seq ?_
  refine run_region (q_assign .n (.c rfl) rfl <|
      q_assign .n (.c rfl) rfl <|
      Lex.nil) ?_
  refine run_seq ?_
  refine run_seq ?_
  refine run_region (q_move .n (.t rfl) rfl <|
      q_call0 (full := false) .n .f en_43 (.cons (.t rfl) .nil) (.cons (.b (.a (.same rfl))) .nil) (fun hg => c_spec_l25Ok list) rfl (fun h => Bool.noConfusion h) rfl <|
      q_not .n (.t rfl) rfl <|
      Lex.nil) ?_
  refine run_cond (.t rfl) rfl (fun h2 => ?_) (fun h2 => ?_)
  · try simp only [Bool.and_eq_true, Bool.or_eq_true, Bool.not_eq_true', Bool.and_eq_false_iff, Bool.or_eq_false_iff, Bool.not_eq_false', decide_eq_true_eq, decide_eq_false_iff_not, beq_iff_eq, bne_iff_ne, beq_eq_false_iff_ne, bne_eq_false_iff_eq, Bool.true_and, ne_eq, Decidable.not_not, Int.not_lt, Int.not_le, Nat.not_lt, Nat.not_le, strB_nil, strB_nil', strB_nnil, strB_nnil'] at h2
    try have hf0h2 := ckOk_impA h2
    try have hf1h2 := ckOk_impA h2.1
    try have hf2h2 := ckOk_impA h2.2
    try have hf3h2 := ckOk_impA h2.1.1
    try have hf4h2 := ckOk_impA h2.1.2
    try have hf5h2 := ckOk_impA h2.2.1
    try have hf6h2 := ckOk_impA h2.2.2
    try have hf7h2 := ckOk_impB h2
    try have hf8h2 := ckOk_impB h2.1
    try have hf9h2 := ckOk_impB h2.2
    try have hf10h2 := ckOk_impB h2.1.1
    try have hf11h2 := ckOk_impB h2.1.2
    try have hf12h2 := ckOk_impB h2.2.1
    try have hf13h2 := ckOk_impB h2.2.2
    refine run_seq ?_
    refine run_region (q_assign .n (.c rfl) rfl <|
        q_assign .n (.c rfl) rfl <|
        Lex.nil) ?_
    refine run_sub (sub_adopt (t := 6) (l := 200) (el := 2) (sz := 1) rfl rfl) ?_
    exact run_ret [(100, 200)] (.cons (.t rfl rfl) (.cons (.t rfl rfl) .nil)) (by first | rfl | (simp only [put_len]; rfl)) ⟨rfl, trivial⟩ rfl
  · try simp only [Bool.and_eq_true, Bool.or_eq_true, Bool.not_eq_true', Bool.and_eq_false_iff, Bool.or_eq_false_iff, Bool.not_eq_false', decide_eq_true_eq, decide_eq_false_iff_not, beq_iff_eq, bne_iff_ne, beq_eq_false_iff_ne, bne_eq_false_iff_eq, Bool.true_and, ne_eq, Decidable.not_not, Int.not_lt, Int.not_le, Nat.not_lt, Nat.not_le, strB_nil, strB_nil', strB_nnil, strB_nnil'] at h2
    try have hf0h2 := ckOk_impA h2
    try have hf1h2 := ckOk_impA h2.1
    try have hf2h2 := ckOk_impA h2.2
    try have hf3h2 := ckOk_impA h2.1.1
    try have hf4h2 := ckOk_impA h2.1.2
    try have hf5h2 := ckOk_impA h2.2.1
    try have hf6h2 := ckOk_impA h2.2.2
    try have hf7h2 := ckOk_impB h2
    try have hf8h2 := ckOk_impB h2.1
    try have hf9h2 := ckOk_impB h2.2
    try have hf10h2 := ckOk_impB h2.1.1
    try have hf11h2 := ckOk_impB h2.1.2
    try have hf12h2 := ckOk_impB h2.2.1
    try have hf13h2 := ckOk_impB h2.2.2
    refine run_skip ?_
    refine run_seq ?_
    refine run_seq ?_
    refine run_region (q_move .n (.t rfl) rfl <|
        q_call0 (full := false) .n .f en_44 (.cons (.t rfl) .nil) (.cons (.b (.a (.same rfl))) .nil) (fun hg => c_spec_l25Day from_) rfl (fun h => Bool.noConfusion h) rfl <|
        q_not .n (.t rfl) rfl <|
        q_move .n (.t rfl) rfl <|
        q_move (.f rfl rfl) (.t rfl) rfl <|
        q_call0 (full := false) (.f rfl rfl) .f en_45 (.cons (.u rfl id) (.cons (.c rfl) (.cons (.c rfl) .nil))) (.cons (.b (.a (.same rfl))) (.cons (.b (.a (.same rfl))) (.cons (.b (.a (.same rfl))) .nil))) (fun hg => c_spec_l00In perDay 1 16) rfl (fun h => Bool.noConfusion h) rfl <|
        q_not (.f rfl rfl) (.u rfl id) rfl <|
        q_or .n (.t rfl) (.u rfl id) rfl <|
        Lex.nil) ?_
    refine run_cond (.t rfl) rfl (fun h3 => ?_) (fun h3 => ?_)
    · try simp only [Bool.and_eq_true, Bool.or_eq_true, Bool.not_eq_true', Bool.and_eq_false_iff, Bool.or_eq_false_iff, Bool.not_eq_false', decide_eq_true_eq, decide_eq_false_iff_not, beq_iff_eq, bne_iff_ne, beq_eq_false_iff_ne, bne_eq_false_iff_eq, Bool.true_and, ne_eq, Decidable.not_not, Int.not_lt, Int.not_le, Nat.not_lt, Nat.not_le, strB_nil, strB_nil', strB_nnil, strB_nnil'] at h3
      try have hf0h3 := l00In_imp h3
      try have hf1h3 := l00In_imp h3.1
      try have hf2h3 := l00In_imp h3.2
      try have hf3h3 := l00In_imp h3.1.1
      try have hf4h3 := l00In_imp h3.1.2
      try have hf5h3 := l00In_imp h3.2.1
      try have hf6h3 := l00In_imp h3.2.2
      try have hf7h3 := ckDay_imp h3
      try have hf8h3 := ckDay_imp h3.1
      try have hf9h3 := ckDay_imp h3.2
      try have hf10h3 := ckDay_imp h3.1.1
      try have hf11h3 := ckDay_imp h3.1.2
      try have hf12h3 := ckDay_imp h3.2.1
      try have hf13h3 := ckDay_imp h3.2.2
      refine run_seq ?_
      refine run_region (q_assign .n (.c rfl) rfl <|
          q_assign .n (.c rfl) rfl <|
          Lex.nil) ?_
      refine run_sub (sub_adopt (t := 6) (l := 201) (el := 2) (sz := 1) rfl rfl) ?_
      exact run_ret [(100, 201)] (.cons (.t rfl rfl) (.cons (.t rfl rfl) .nil)) (by first | rfl | (simp only [put_len]; rfl)) ⟨rfl, trivial⟩ rfl
    · try simp only [Bool.and_eq_true, Bool.or_eq_true, Bool.not_eq_true', Bool.and_eq_false_iff, Bool.or_eq_false_iff, Bool.not_eq_false', decide_eq_true_eq, decide_eq_false_iff_not, beq_iff_eq, bne_iff_ne, beq_eq_false_iff_ne, bne_eq_false_iff_eq, Bool.true_and, ne_eq, Decidable.not_not, Int.not_lt, Int.not_le, Nat.not_lt, Nat.not_le, strB_nil, strB_nil', strB_nnil, strB_nnil'] at h3
      try have hf0h3 := l00In_imp h3
      try have hf1h3 := l00In_imp h3.1
      try have hf2h3 := l00In_imp h3.2
      try have hf3h3 := l00In_imp h3.1.1
      try have hf4h3 := l00In_imp h3.1.2
      try have hf5h3 := l00In_imp h3.2.1
      try have hf6h3 := l00In_imp h3.2.2
      try have hf7h3 := ckDay_imp h3
      try have hf8h3 := ckDay_imp h3.1
      try have hf9h3 := ckDay_imp h3.2
      try have hf10h3 := ckDay_imp h3.1.1
      try have hf11h3 := ckDay_imp h3.1.2
      try have hf12h3 := ckDay_imp h3.2.1
      try have hf13h3 := ckDay_imp h3.2.2
      refine run_skip ?_
      refine run_seq ?_
      refine run_region (q_move .n (.t rfl) rfl <|
          q_move .n (.t rfl) rfl <|
          q_move .n (.t rfl) rfl <|
          q_callM (full := false) [] [(100, 202)] .n rfl .f en_46 (.cons (.t rfl) (.cons (.t rfl) (.cons (.t rfl) .nil))) (.cons (.b (.a (.same rfl))) (.cons (.b (.a (.same rfl))) (.cons (.b (.a (.same rfl))) .nil))) (c_spec_l25Spread list from_ perDay (by first | omega | assumption | (simp only [List.length_append, List.length_cons, List.length_nil, List.length_replicate, put_len] at * <;> omega)) (by first | omega | assumption | (simp only [List.length_append, List.length_cons, List.length_nil, List.length_replicate, put_len] at * <;> omega)) (by first | omega | assumption | (simp only [List.length_append, List.length_cons, List.length_nil, List.length_replicate, put_len] at * <;> omega))) trivial rfl rfl (fun h => Bool.noConfusion h) (fun h => Bool.noConfusion h) rfl <|
          q_move .n (.t rfl) rfl <|
          q_ext .n (.t rfl) rfl rfl rfl <|
          q_ext .n (.t rfl) rfl rfl rfl <|
          q_assign .n (.t rfl) rfl <|
          q_assign .n (.t rfl) rfl <|
          Lex.nil) ?_
      refine run_seq ?_
      refine run_seq ?_
      refine run_region (q_move .n (.t rfl) rfl <|
          q_not .n (.t rfl) rfl <|
          Lex.nil) ?_
      refine run_cond (.t rfl) rfl (fun h4 => ?_) (fun h4 => ?_)
      · try simp only [Bool.and_eq_true, Bool.or_eq_true, Bool.not_eq_true', Bool.and_eq_false_iff, Bool.or_eq_false_iff, Bool.not_eq_false', decide_eq_true_eq, decide_eq_false_iff_not, beq_iff_eq, bne_iff_ne, beq_eq_false_iff_ne, bne_eq_false_iff_eq, Bool.true_and, ne_eq, Decidable.not_not, Int.not_lt, Int.not_le, Nat.not_lt, Nat.not_le, strB_nil, strB_nil', strB_nnil, strB_nnil'] at h4
        refine run_seq ?_
        refine run_region (q_assign .n (.c rfl) rfl <|
            q_assign .n (.c rfl) rfl <|
            Lex.nil) ?_
        refine run_sub (sub_adopt (t := 6) (l := 203) (el := 2) (sz := 1) rfl rfl) ?_
        exact run_ret [(100, 203)] (.cons (.t rfl rfl) (.cons (.t rfl rfl) .nil)) (by first | rfl | (simp only [put_len]; rfl)) ⟨rfl, trivial⟩ rfl
      · try simp only [Bool.and_eq_true, Bool.or_eq_true, Bool.not_eq_true', Bool.and_eq_false_iff, Bool.or_eq_false_iff, Bool.not_eq_false', decide_eq_true_eq, decide_eq_false_iff_not, beq_iff_eq, bne_iff_ne, beq_eq_false_iff_ne, bne_eq_false_iff_eq, Bool.true_and, ne_eq, Decidable.not_not, Int.not_lt, Int.not_le, Nat.not_lt, Nat.not_le, strB_nil, strB_nil', strB_nnil, strB_nnil'] at h4
        refine run_skip ?_
        refine run_seq ?_
        refine run_region (q_move .n (.t rfl) rfl <|
            q_assign .n (.t rfl) rfl <|
            q_assign .n (.c rfl) rfl <|
            Lex.nil) ?_
        exact run_ret [(100, 202)] (.cons (.t rfl rfl) (.cons (.t rfl rfl) .nil)) (by first | rfl | (simp only [put_len]; rfl)) ⟨rfl, trivial⟩ rfl

/-! ### laws_toCheck -/
theorem c_laws_toCheck (a : gCheck) : Con Try.prog 47 [.st [.str a.Id, .int .i64 a.Every, .int .i64 a.Last]] [] (.st [.str (m_laws_toCheck a).Id, .int .i64 (m_laws_toCheck a).Every, .int .i64 (m_laws_toCheck a).Last]) ([]) := by
  refine con_intro (out := fun r : gCheck => ((.st [.str r.Id, .int .i64 r.Every, .int .i64 r.Last] : V), ([] : List (Nat × Option O)))) (r := (m_laws_toCheck a)) Try.func47 rfl Try.ntmps47 rfl ?_
  refine run_seq ?_
  refine run_region (q_box (l := 200) .n rfl (.t rfl) rfl rfl rfl rfl <|
      q_alloc (l := 201) .n rfl zv_83 rfl rfl <|
      Lex.nil) ?_
  refine run_seq ?_
  refine run_region (q_alloc (l := 202) .n rfl zv_83 rfl rfl <|
      Lex.nil) ?_
  refine run_seq ?_
  refine run_region (q_fld_ow .n (.t rfl) fo_77_0 rfl <|
      q_ld1_ow .n (.t rfl) rfl (.inr rfl) (fun _ => rfl) rfl ic_9 rfl <|
      q_fld_ow .n (.t rfl) fo_83_0 rfl <|
      q_st_boxm [.str a.Id, .int .i64 0, .int .i64 0] .n rfl (.t rfl) (.t rfl) rfl ts_9 rfl rfl <|
      Lex.nil) ?_
  refine run_seq ?_
  refine run_region (q_fld_ow .n (.t rfl) fo_77_1 rfl <|
      q_ld1_ow .n (.t rfl) rfl (.inr rfl) (fun _ => rfl) rfl ic_2 rfl <|
      q_fld_ow .n (.t rfl) fo_83_1 rfl <|
      q_st_boxm [.str a.Id, .int .i64 a.Every, .int .i64 0] .n rfl (.t rfl) (.t rfl) rfl ts_2 rfl rfl <|
      Lex.nil) ?_
  refine run_seq ?_
  refine run_region (q_fld_ow .n (.t rfl) fo_77_2 rfl <|
      q_ld1_ow .n (.t rfl) rfl (.inr rfl) (fun _ => rfl) rfl ic_2 rfl <|
      q_fld_ow .n (.t rfl) fo_83_2 rfl <|
      q_st_boxm [.str a.Id, .int .i64 a.Every, .int .i64 a.Last] .n rfl (.t rfl) (.t rfl) rfl ts_2 rfl rfl <|
      Lex.nil) ?_
  refine run_seq ?_
  refine run_region (q_ldN_ow .n (.t rfl) rfl (.inr rfl) ag_83 (fun _ => rfl) rfl rfl <|
      q_st_boxm [.str a.Id, .int .i64 a.Every, .int .i64 a.Last] .n rfl (.t rfl) (.t rfl) rfl ts_83 rfl rfl <|
      Lex.nil) ?_
  exact run_ret [] (.cons (.cN rfl rfl ag_83 rfl rfl) .nil) (by first | rfl | (simp only [put_len]; rfl)) trivial rfl

/-! ### laws_toCheckS -/
theorem c_laws_toCheckS (a : List gCheck) (hp1 : a.length ≤ 1048576 ∧ ∀ y ∈ a, gCheck.sz y) : Con Try.prog 9 [.sl 3 (a.map gCheck.v)] [] (.os 100 (m_laws_toCheckS a).length) ([(100, some (.row 83 3 ((m_laws_toCheckS a).map gCheck.v)))]) := by
  refine con_intro (out := fun r : (List gCheck) => ((.os 100 r.length : V), ([(100, some (.row 83 3 (r.map gCheck.v)))] : List (Nat × Option O)))) (r := (m_laws_toCheckS a)) Try.func9 rfl Try.ntmps9 rfl ?_
  refine run_fact (t := 0) rfl fun hl => ?_
  have l1 := hl; clear hl; simp only [List.length_map] at l1
  refine run_seq ?_
  refine run_region (q_assign .n (.c rfl) rfl <|
      Lex.nil) ?_
  refine run_seq ?_
  refine run_region (q_move .n (.t rfl) rfl <|
      q_len .n (.t rfl) rfl len_map ss_22 rfl <|
      q_makem (f := gCheck.v) (l := 200) (gCheck.mk ([] : List UInt8) 0 0 : gCheck) .n rfl (.t rfl) (.t rfl) si_27 zv_83 (by first | omega | assumption | (simp only [List.length_append, List.length_cons, List.length_nil, List.length_replicate, put_len] at * <;> omega) | (exact hp1.2) | (exact at_all hp1.2 (by omega)) | (exact hp1.1) | (exact hp1)) rfl rfl rfl <|
      q_assign .n (.t rfl) rfl <|
      Lex.nil) ?_
  refine run_seq ?_
  refine run_seq ?_
  refine run_region (q_assign .n (.c rfl) rfl <|
      Lex.nil) ?_
  refine run_block ?_
  refine run_LOOP (m_laws_toCheckS_b1 a) _ _ _ rfl (fun (x1 : (List gCheck) × Int) => 0 ≤ x1.2 ∧ x1.2 ≤ (a.length : Int) ∧ x1.1.length = (List.replicate ((a.length : Int) : Int).toNat (gCheck.mk ([] : List UInt8) 0 0 : gCheck)).length) (fun x1 => 0 ≤ x1.2 ∧ x1.2 ≤ (a.length : Int) ∧ x1.1.length = (List.replicate ((a.length : Int) : Int).toNat (gCheck.mk ([] : List UInt8) 0 0 : gCheck)).length ∧ (a.length : Int) ≤ x1.2) (fun x1 => ((a.length : Int) - x1.2 : Int).toNat) (fun x1 => ⟨[(0, some (true, .sl 3 (a.map gCheck.v))), (3, some (true, .os 200 x1.1.length)), (4, some (true, .int .i64 x1.2))], [(200, some (.row 83 3 (x1.1.map gCheck.v)))]⟩) (fun x1 => ⟨[(3, some (true, .os 200 x1.1.length))], [(200, some (.row 83 3 (x1.1.map gCheck.v)))]⟩) ⟨by first | omega | assumption | (simp only [List.length_append, List.length_cons, List.length_nil, List.length_replicate, put_len] at * <;> omega) | (exact hp1.2) | (exact at_all hp1.2 (by omega)) | (exact hp1.1) | (exact hp1), by first | omega | assumption | (simp only [List.length_append, List.length_cons, List.length_nil, List.length_replicate, put_len] at * <;> omega) | (exact hp1.2) | (exact at_all hp1.2 (by omega)) | (exact hp1.1) | (exact hp1), by first | omega | assumption | (simp only [List.length_append, List.length_cons, List.length_nil, List.length_replicate, put_len] at * <;> omega) | (exact hp1.2) | (exact at_all hp1.2 (by omega)) | (exact hp1.1) | (exact hp1)⟩ (by first | omega | assumption | (simp only [List.length_append, List.length_cons, List.length_nil, List.length_replicate, put_len] at * <;> omega) | (exact hp1.2) | (exact at_all hp1.2 (by omega)) | (exact hp1.1) | (exact hp1)) (sub_of [] ⟨rfl, rfl, rfl, trivial⟩ ⟨rfl, trivial⟩ rfl) ?_ ?_
  · intro x1 i5
    obtain ⟨e6, e7, e8, e9⟩ := i5
    try dsimp only at *
    refine run_seq ?_
    refine run_region (q_move .n (.t rfl) rfl <|
        q_assign .n (.t rfl) rfl <|
        Lex.nil) ?_
    exact run_ret [(100, 200)] (.cons (.t rfl rfl) .nil) (by first | rfl | (simp only [put_len]; rfl)) ⟨rfl, trivial⟩ rfl
  · intro rec1 k1 hk2 x1 i3
    obtain ⟨e10, e11, e12⟩ := i3
    try dsimp only at *
    refine run_seq ?_
    refine run_seq ?_
    refine run_region (q_move .n (.t rfl) rfl <|
        q_move .n (.t rfl) rfl <|
        q_len .n (.t rfl) rfl len_map ss_22 rfl <|
        q_int .n (.t rfl) (.t rfl) rfl rfl <|
        Lex.nil) ?_
    refine run_cond (.t rfl) rfl (fun h4 => ?_) (fun h4 => ?_)
    · try simp only [Bool.and_eq_true, Bool.or_eq_true, Bool.not_eq_true', Bool.and_eq_false_iff, Bool.or_eq_false_iff, Bool.not_eq_false', decide_eq_true_eq, decide_eq_false_iff_not, beq_iff_eq, bne_iff_ne, beq_eq_false_iff_ne, bne_eq_false_iff_eq, Bool.true_and, ne_eq, Decidable.not_not, Int.not_lt, Int.not_le, Nat.not_lt, Nat.not_le, strB_nil, strB_nil', strB_nnil, strB_nnil'] at h4
      refine run_skip ?_
      refine run_seq ?_
      refine run_block ?_
      refine run_region (q_move .n (.t rfl) rfl <|
          q_move .n (.t rfl) rfl <|
          q_move .n (.t rfl) rfl <|
          q_move .n (.t rfl) rfl <|
          q_idx_rm .n (.t rfl) (.t rfl) sl_22 (fun _ => by first | omega | assumption | (simp only [List.length_append, List.length_cons, List.length_nil, List.length_replicate, put_len] at * <;> omega) | (exact hp1.2) | (exact at_all hp1.2 (by omega)) | (exact hp1.1) | (exact hp1)) rfl <|
          q_ldN_ro .n (.t rfl) ag_77 rfl rfl rfl <|
          q_call0 (full := false) .n .f en_47 (.cons (.t rfl) .nil) (.cons (.sts rfl) .nil) (fun hg => c_laws_toCheck (at' a x1.2)) rfl (fun h => Bool.noConfusion h) rfl <|
          q_idx_ow .n (.t rfl) (.t rfl) sl_27 (fun _ => by first | omega | assumption | (simp only [List.length_append, List.length_cons, List.length_nil, List.length_replicate, put_len] at * <;> omega) | (exact hp1.2) | (exact at_all hp1.2 (by omega)) | (exact hp1.1) | (exact hp1)) rfl <|
          q_st_rowm (m_laws_toCheck (at' a x1.2)) .n rfl (.t rfl) (.t rfl) rfl ts_83 (by first | omega | assumption | (simp only [List.length_append, List.length_cons, List.length_nil, List.length_replicate, put_len] at * <;> omega) | (exact hp1.2) | (exact at_all hp1.2 (by omega)) | (exact hp1.1) | (exact hp1)) rfl rfl <|
          Lex.nil) ?_
      refine run_endB ?_
      refine run_region (q_move .n (.t rfl) rfl <|
          q_add .n (.t rfl) (.c rfl) (fun _ => by first | omega | assumption | (simp only [List.length_append, List.length_cons, List.length_nil, List.length_replicate, put_len] at * <;> omega) | (exact hp1.2) | (exact at_all hp1.2 (by omega)) | (exact hp1.1) | (exact hp1)) rfl <|
          q_assign .n (.t rfl) rfl <|
          Lex.nil) ?_
      exact run_again (put' x1.1 x1.2 (m_laws_toCheck (at' a x1.2)), x1.2 + 1) ⟨by first | omega | assumption | (simp only [List.length_append, List.length_cons, List.length_nil, List.length_replicate, put_len] at * <;> omega) | (exact hp1.2) | (exact at_all hp1.2 (by omega)) | (exact hp1.1) | (exact hp1), by first | omega | assumption | (simp only [List.length_append, List.length_cons, List.length_nil, List.length_replicate, put_len] at * <;> omega) | (exact hp1.2) | (exact at_all hp1.2 (by omega)) | (exact hp1.1) | (exact hp1), by first | omega | assumption | (simp only [List.length_append, List.length_cons, List.length_nil, List.length_replicate, put_len] at * <;> omega) | (exact hp1.2) | (exact at_all hp1.2 (by omega)) | (exact hp1.1) | (exact hp1)⟩ (by first | omega | assumption | (simp only [List.length_append, List.length_cons, List.length_nil, List.length_replicate, put_len] at * <;> omega) | (exact hp1.2) | (exact at_all hp1.2 (by omega)) | (exact hp1.1) | (exact hp1)) (sub_of [] ⟨rfl, os_len rfl (by first | (simp only [put_len]; done) | (first | omega | assumption | (simp only [List.length_append, List.length_cons, List.length_nil, List.length_replicate, put_len] at * <;> omega) | (exact hp1.2) | (exact at_all hp1.2 (by omega)) | (exact hp1.1) | (exact hp1))), rfl, trivial⟩ ⟨rfl, trivial⟩ rfl)
    · try simp only [Bool.and_eq_true, Bool.or_eq_true, Bool.not_eq_true', Bool.and_eq_false_iff, Bool.or_eq_false_iff, Bool.not_eq_false', decide_eq_true_eq, decide_eq_false_iff_not, beq_iff_eq, bne_iff_ne, beq_eq_false_iff_ne, bne_eq_false_iff_eq, Bool.true_and, ne_eq, Decidable.not_not, Int.not_lt, Int.not_le, Nat.not_lt, Nat.not_le, strB_nil, strB_nil', strB_nnil, strB_nnil'] at h4
      refine run_exit rfl ?_
      exact run_cont hk2 (x1.1, x1.2) ⟨by first | omega | assumption | (simp only [List.length_append, List.length_cons, List.length_nil, List.length_replicate, put_len] at * <;> omega) | (exact hp1.2) | (exact at_all hp1.2 (by omega)) | (exact hp1.1) | (exact hp1), by first | omega | assumption | (simp only [List.length_append, List.length_cons, List.length_nil, List.length_replicate, put_len] at * <;> omega) | (exact hp1.2) | (exact at_all hp1.2 (by omega)) | (exact hp1.1) | (exact hp1), by first | omega | assumption | (simp only [List.length_append, List.length_cons, List.length_nil, List.length_replicate, put_len] at * <;> omega) | (exact hp1.2) | (exact at_all hp1.2 (by omega)) | (exact hp1.1) | (exact hp1), by first | omega | assumption | (simp only [List.length_append, List.length_cons, List.length_nil, List.length_replicate, put_len] at * <;> omega) | (exact hp1.2) | (exact at_all hp1.2 (by omega)) | (exact hp1.1) | (exact hp1)⟩ (sub_of [] ⟨rfl, trivial⟩ ⟨rfl, trivial⟩ rfl)

/-! ### impl_within -/
theorem c_impl_within (n_ : Int) (low : Int) (high : Int) : Con Try.prog 50 [.int .i64 n_, .int .i64 low, .int .i64 high] [] (.bool (m_impl_within n_ low high)) ([]) := by
  refine con_intro (out := fun r : Bool => ((.bool r : V), ([] : List (Nat × Option O)))) (r := (m_impl_within n_ low high)) Try.func50 rfl Try.ntmps50 rfl ?_
  refine run_seq ?_
  refine run_region (q_assign .n (.c rfl) rfl <|
      Lex.nil) ?_
  refine run_seq ?_
  refine run_region (q_move .n (.t rfl) rfl <|
      q_move .n (.t rfl) rfl <|
      q_int .n (.t rfl) (.t rfl) rfl rfl <|
      q_move .n (.t rfl) rfl <|
      q_move (.t rfl rfl) (.t rfl) rfl <|
      q_move (.t rfl rfl) (.t rfl) rfl <|
      q_int (.t rfl rfl) (.u rfl id) (.u rfl id) rfl rfl <|
      q_and .n (.t rfl) (.u rfl id) rfl <|
      q_assign .n (.t rfl) rfl <|
      Lex.nil) ?_
  exact run_ret [] (.cons (.t rfl rfl) .nil) rfl trivial rfl

/-! ### impl_checkDay -/
theorem c_impl_checkDay (n_ : Int) : Con Try.prog 49 [.int .i64 n_] [] (.bool (m_impl_checkDay n_)) ([]) := by
  refine con_intro (out := fun r : Bool => ((.bool r : V), ([] : List (Nat × Option O)))) (r := (m_impl_checkDay n_)) Try.func49 rfl Try.ntmps49 rfl ?_
  refine run_seq ?_
  refine run_region (q_assign .n (.c rfl) rfl <|
      Lex.nil) ?_
  refine run_seq ?_
  refine run_region (q_move .n (.t rfl) rfl <|
      q_call0 (full := false) .n .f en_50 (.cons (.t rfl) (.cons (.c rfl) (.cons (.c rfl) .nil))) (.cons (.b (.a (.same rfl))) (.cons (.b (.a (.same rfl))) (.cons (.b (.a (.same rfl))) .nil))) (fun hg => c_impl_within n_ 0 100000) rfl (fun h => Bool.noConfusion h) rfl <|
      q_assign .n (.t rfl) rfl <|
      Lex.nil) ?_
  exact run_ret [] (.cons (.t rfl rfl) .nil) rfl trivial rfl

/-! ### impl_onlyNameBytes -/
theorem c_impl_onlyNameBytes (s_ : List UInt8) (hp1 : s_.length ≤ 10) : Con Try.prog 128 [.str s_] [] (.bool (m_impl_onlyNameBytes s_)) ([]) := by
  refine con_intro (out := fun r : Bool => ((.bool r : V), ([] : List (Nat × Option O)))) (r := (m_impl_onlyNameBytes s_)) Try.func128 rfl Try.ntmps128 rfl ?_
  refine run_seq ?_
  refine run_region (q_assign .n (.c rfl) rfl <|
      Lex.nil) ?_
  refine run_seq ?_
  refine run_seq ?_
  refine run_region (q_move .n (.t rfl) rfl <|
      q_len .n (.t rfl) rfl rfl st_9 rfl <|
      q_move .n (.c rfl) rfl <|
      Lex.nil) ?_
  refine run_block ?_
  refine run_LOOP (m_impl_onlyNameBytes_b1 s_) _ _ _ rfl (fun (x1 : Int) => 0 ≤ x1 ∧ x1 ≤ (s_.length : Int)) (fun x1 => 0 ≤ x1 ∧ x1 ≤ (s_.length : Int) ∧ (s_.length : Int) ≤ x1) (fun x1 => ((s_.length : Int) - x1 : Int).toNat) (fun x1 => ⟨[(0, some (true, .str s_)), (6, some (true, .int .i64 (s_.length : Int))), (7, some (true, .int .i64 x1))], []⟩) (fun x1 => ⟨[], []⟩) ⟨by first | omega | assumption | (simp only [List.length_append, List.length_cons, List.length_nil, List.length_replicate, put_len] at * <;> omega), by first | omega | assumption | (simp only [List.length_append, List.length_cons, List.length_nil, List.length_replicate, put_len] at * <;> omega)⟩ (by first | omega | assumption | (simp only [List.length_append, List.length_cons, List.length_nil, List.length_replicate, put_len] at * <;> omega)) (sub_of [] ⟨rfl, rfl, rfl, trivial⟩ trivial rfl) ?_ ?_
  · intro x1 i5
    obtain ⟨e6, e7, e8⟩ := i5
    try dsimp only at *
    refine run_seq ?_
    refine run_region (q_assign .n (.c rfl) rfl <|
        Lex.nil) ?_
    exact run_ret [] (.cons (.t rfl rfl) .nil) rfl trivial rfl
  · intro rec1 k1 hk1 x1 i2
    obtain ⟨e9, e10⟩ := i2
    try dsimp only at *
    refine run_seq ?_
    refine run_region (q_int .n (.t rfl) (.t rfl) rfl rfl <|
        Lex.nil) ?_
    refine run_seq ?_
    refine run_cond (.t rfl) rfl (fun h3 => ?_) (fun h3 => ?_)
    · try simp only [Bool.and_eq_true, Bool.or_eq_true, Bool.not_eq_true', Bool.and_eq_false_iff, Bool.or_eq_false_iff, Bool.not_eq_false', decide_eq_true_eq, decide_eq_false_iff_not, beq_iff_eq, bne_iff_ne, beq_eq_false_iff_ne, bne_eq_false_iff_eq, Bool.true_and, ne_eq, Decidable.not_not, Int.not_lt, Int.not_le, Nat.not_lt, Nat.not_le, strB_nil, strB_nil', strB_nnil, strB_nnil'] at h3
      refine run_skip ?_
      refine run_seq ?_
      refine run_block ?_
      refine run_seq ?_
      refine run_region (q_move .n (.t rfl) rfl <|
          q_assign .n (.t rfl) rfl <|
          Lex.nil) ?_
      refine run_seq ?_
      refine run_region (q_move .n (.t rfl) rfl <|
          q_move .n (.t rfl) rfl <|
          q_strat .n (.t rfl) (.t rfl) st_9 (fun _ => by first | omega | assumption | (simp only [List.length_append, List.length_cons, List.length_nil, List.length_replicate, put_len] at * <;> omega)) rfl <|
          q_assign .n (.t rfl) rfl <|
          Lex.nil) ?_
      refine run_seq ?_
      refine run_region (q_move .n (.t rfl) rfl <|
          q_int .n (.t rfl) (.c rfl) rfl rfl <|
          q_move .n (.t rfl) rfl <|
          q_move (.f rfl rfl) (.t rfl) rfl <|
          q_int (.f rfl rfl) (.u rfl id) (.c rfl) rfl rfl <|
          q_or .n (.t rfl) (.u rfl id) rfl <|
          q_move .n (.t rfl) rfl <|
          q_move (.t rfl rfl) (.t rfl) rfl <|
          q_int (.t rfl rfl) (.u rfl id) (.c rfl) rfl rfl <|
          q_move (.t rfl rfl) (.u rfl id) rfl <|
          q_move (.f rfl rfl) (.t rfl) rfl <|
          q_int (.f rfl rfl) (.u rfl id) (.c rfl) rfl rfl <|
          q_or (.t rfl rfl) (.u rfl id) (.u rfl id) rfl <|
          q_and .n (.t rfl) (.u rfl id) rfl <|
          Lex.nil) ?_
      refine run_cond (.t rfl) rfl (fun h4 => ?_) (fun h4 => ?_)
      · try simp only [Bool.and_eq_true, Bool.or_eq_true, Bool.not_eq_true', Bool.and_eq_false_iff, Bool.or_eq_false_iff, Bool.not_eq_false', decide_eq_true_eq, decide_eq_false_iff_not, beq_iff_eq, bne_iff_ne, beq_eq_false_iff_ne, bne_eq_false_iff_eq, Bool.true_and, ne_eq, Decidable.not_not, Int.not_lt, Int.not_le, Nat.not_lt, Nat.not_le, strB_nil, strB_nil', strB_nnil, strB_nnil'] at h4
        refine run_seq ?_
        refine run_region (q_assign .n (.c rfl) rfl <|
            Lex.nil) ?_
        exact run_ret [] (.cons (.t rfl rfl) .nil) rfl trivial rfl
      · try simp only [Bool.and_eq_true, Bool.or_eq_true, Bool.not_eq_true', Bool.and_eq_false_iff, Bool.or_eq_false_iff, Bool.not_eq_false', decide_eq_true_eq, decide_eq_false_iff_not, beq_iff_eq, bne_iff_ne, beq_eq_false_iff_ne, bne_eq_false_iff_eq, Bool.true_and, ne_eq, Decidable.not_not, Int.not_lt, Int.not_le, Nat.not_lt, Nat.not_le, strB_nil, strB_nil', strB_nnil, strB_nnil'] at h4
        refine run_skip ?_
        refine run_endB ?_
        refine run_region (q_add .n (.t rfl) (.c rfl) (fun _ => by first | omega | assumption | (simp only [List.length_append, List.length_cons, List.length_nil, List.length_replicate, put_len] at * <;> omega)) rfl <|
            q_move .n (.t rfl) rfl <|
            Lex.nil) ?_
        exact run_again (x1 + 1) ⟨by first | omega | assumption | (simp only [List.length_append, List.length_cons, List.length_nil, List.length_replicate, put_len] at * <;> omega), by first | omega | assumption | (simp only [List.length_append, List.length_cons, List.length_nil, List.length_replicate, put_len] at * <;> omega)⟩ (by first | omega | assumption | (simp only [List.length_append, List.length_cons, List.length_nil, List.length_replicate, put_len] at * <;> omega)) (sub_of [] ⟨rfl, rfl, rfl, trivial⟩ trivial rfl)
    · try simp only [Bool.and_eq_true, Bool.or_eq_true, Bool.not_eq_true', Bool.and_eq_false_iff, Bool.or_eq_false_iff, Bool.not_eq_false', decide_eq_true_eq, decide_eq_false_iff_not, beq_iff_eq, bne_iff_ne, beq_eq_false_iff_ne, bne_eq_false_iff_eq, Bool.true_and, ne_eq, Decidable.not_not, Int.not_lt, Int.not_le, Nat.not_lt, Nat.not_le, strB_nil, strB_nil', strB_nnil, strB_nnil'] at h3
      refine run_exit rfl ?_
      exact run_cont hk1 x1 ⟨by first | omega | assumption | (simp only [List.length_append, List.length_cons, List.length_nil, List.length_replicate, put_len] at * <;> omega), by first | omega | assumption | (simp only [List.length_append, List.length_cons, List.length_nil, List.length_replicate, put_len] at * <;> omega), by first | omega | assumption | (simp only [List.length_append, List.length_cons, List.length_nil, List.length_replicate, put_len] at * <;> omega)⟩ (sub_of [] trivial trivial rfl)

/-! ### impl_IsName -/
theorem c_impl_IsName (s_ : List UInt8) : Con Try.prog 106 [.str s_] [] (.bool (m_impl_IsName s_)) ([]) := by
  refine con_intro (out := fun r : Bool => ((.bool r : V), ([] : List (Nat × Option O)))) (r := (m_impl_IsName s_)) Try.func106 rfl Try.ntmps106 rfl ?_
  refine run_seq ?_
  refine run_region (q_assign .n (.c rfl) rfl <|
      Lex.nil) ?_
  refine run_seq ?_
  refine run_seq ?_
  refine run_region (q_move .n (.t rfl) rfl <|
      q_len .n (.t rfl) rfl rfl st_9 rfl <|
      q_int .n (.t rfl) (.c rfl) rfl rfl <|
      q_move .n (.t rfl) rfl <|
      q_move (.f rfl rfl) (.t rfl) rfl <|
      q_len (.f rfl rfl) (.u rfl id) rfl rfl st_9 rfl <|
      q_int (.f rfl rfl) (.u rfl id) (.c rfl) rfl rfl <|
      q_or .n (.t rfl) (.u rfl id) rfl <|
      q_move .n (.t rfl) rfl <|
      q_move (.f rfl rfl) (.t rfl) rfl <|
      q_strat (.f rfl rfl) (.u rfl id) (.c rfl) st_9 (fun hg => by simp only [Bool.and_eq_true, Bool.or_eq_true, Bool.not_eq_true', Bool.and_eq_false_iff, Bool.or_eq_false_iff, Bool.not_eq_false', decide_eq_true_eq, decide_eq_false_iff_not, beq_iff_eq, bne_iff_ne, beq_eq_false_iff_ne, bne_eq_false_iff_eq, Bool.true_and, ne_eq, Decidable.not_not, Int.not_lt, Int.not_le, Nat.not_lt, Nat.not_le, strB_nil, strB_nil', strB_nnil, strB_nnil'] at hg; first | omega | assumption | (simp only [List.length_append, List.length_cons, List.length_nil, List.length_replicate, put_len] at * <;> omega)) rfl <|
      q_int (.f rfl rfl) (.u rfl id) (.c rfl) rfl rfl <|
      q_or .n (.t rfl) (.u rfl id) rfl <|
      q_move .n (.t rfl) rfl <|
      q_move (.f rfl rfl) (.t rfl) rfl <|
      q_strat (.f rfl rfl) (.u rfl id) (.c rfl) st_9 (fun hg => by simp only [Bool.and_eq_true, Bool.or_eq_true, Bool.not_eq_true', Bool.and_eq_false_iff, Bool.or_eq_false_iff, Bool.not_eq_false', decide_eq_true_eq, decide_eq_false_iff_not, beq_iff_eq, bne_iff_ne, beq_eq_false_iff_ne, bne_eq_false_iff_eq, Bool.true_and, ne_eq, Decidable.not_not, Int.not_lt, Int.not_le, Nat.not_lt, Nat.not_le, strB_nil, strB_nil', strB_nnil, strB_nnil'] at hg; first | omega | assumption | (simp only [List.length_append, List.length_cons, List.length_nil, List.length_replicate, put_len] at * <;> omega)) rfl <|
      q_int (.f rfl rfl) (.u rfl id) (.c rfl) rfl rfl <|
      q_or .n (.t rfl) (.u rfl id) rfl <|
      Lex.nil) ?_
  refine run_cond (.t rfl) rfl (fun h1 => ?_) (fun h1 => ?_)
  · try simp only [Bool.and_eq_true, Bool.or_eq_true, Bool.not_eq_true', Bool.and_eq_false_iff, Bool.or_eq_false_iff, Bool.not_eq_false', decide_eq_true_eq, decide_eq_false_iff_not, beq_iff_eq, bne_iff_ne, beq_eq_false_iff_ne, bne_eq_false_iff_eq, Bool.true_and, ne_eq, Decidable.not_not, Int.not_lt, Int.not_le, Nat.not_lt, Nat.not_le, strB_nil, strB_nil', strB_nnil, strB_nnil'] at h1
    refine run_seq ?_
    refine run_region (q_assign .n (.c rfl) rfl <|
        Lex.nil) ?_
    exact run_ret [] (.cons (.t rfl rfl) .nil) rfl trivial rfl
  · try simp only [Bool.and_eq_true, Bool.or_eq_true, Bool.not_eq_true', Bool.and_eq_false_iff, Bool.or_eq_false_iff, Bool.not_eq_false', decide_eq_true_eq, decide_eq_false_iff_not, beq_iff_eq, bne_iff_ne, beq_eq_false_iff_ne, bne_eq_false_iff_eq, Bool.true_and, ne_eq, Decidable.not_not, Int.not_lt, Int.not_le, Nat.not_lt, Nat.not_le, strB_nil, strB_nil', strB_nnil, strB_nnil'] at h1
    refine run_skip ?_
    refine run_seq ?_
    refine run_region (q_move .n (.t rfl) rfl <|
        q_call0 (full := false) .n .f en_128 (.cons (.t rfl) .nil) (.cons (.b (.a (.same rfl))) .nil) (fun hg => c_impl_onlyNameBytes s_ (by first | omega | assumption | (simp only [List.length_append, List.length_cons, List.length_nil, List.length_replicate, put_len] at * <;> omega))) rfl (fun h => Bool.noConfusion h) rfl <|
        q_assign .n (.t rfl) rfl <|
        Lex.nil) ?_
    exact run_ret [] (.cons (.t rfl rfl) .nil) rfl trivial rfl

/-! ### impl_Check_valid -/
theorem c_impl_Check_valid (c_ : gCheck) : Con Try.prog 95 [.st [.str c_.Id, .int .i64 c_.Every, .int .i64 c_.Last]] [] (.bool (m_impl_Check_valid c_)) ([]) := by
  refine con_intro (out := fun r : Bool => ((.bool r : V), ([] : List (Nat × Option O)))) (r := (m_impl_Check_valid c_)) Try.func95 rfl Try.ntmps95 rfl ?_
  refine run_seq ?_
  refine run_region (q_box (l := 200) .n rfl (.t rfl) rfl rfl rfl rfl <|
      q_assign .n (.c rfl) rfl <|
      Lex.nil) ?_
  refine run_seq ?_
  refine run_region (q_fld_ow .n (.t rfl) fo_83_0 rfl <|
      q_ld1_ow .n (.t rfl) rfl (.inr rfl) (fun _ => rfl) rfl ic_9 rfl <|
      q_call0 (full := false) .n .f en_106 (.cons (.t rfl) .nil) (.cons (.b (.a (.same rfl))) .nil) (fun hg => c_impl_IsName c_.Id) rfl (fun h => Bool.noConfusion h) rfl <|
      q_move .n (.t rfl) rfl <|
      q_fld_ow (.t rfl rfl) (.t rfl) fo_83_1 rfl <|
      q_ld1_ow (.t rfl rfl) (.u rfl id) rfl (.inr rfl) (fun _ => rfl) rfl ic_2 rfl <|
      q_call0 (full := false) (.t rfl rfl) .f en_50 (.cons (.u rfl id) (.cons (.c rfl) (.cons (.c rfl) .nil))) (.cons (.b (.a (.same rfl))) (.cons (.b (.a (.same rfl))) (.cons (.b (.a (.same rfl))) .nil))) (fun hg => c_impl_within c_.Every 1 365) rfl (fun h => Bool.noConfusion h) rfl <|
      q_and .n (.t rfl) (.u rfl id) rfl <|
      q_move .n (.t rfl) rfl <|
      q_fld_ow (.t rfl rfl) (.t rfl) fo_83_2 rfl <|
      q_ld1_ow (.t rfl rfl) (.u rfl id) rfl (.inr rfl) (fun _ => rfl) rfl ic_2 rfl <|
      q_call0 (full := false) (.t rfl rfl) .f en_49 (.cons (.u rfl id) .nil) (.cons (.b (.a (.same rfl))) .nil) (fun hg => c_impl_checkDay c_.Last) rfl (fun h => Bool.noConfusion h) rfl <|
      q_and .n (.t rfl) (.u rfl id) rfl <|
      q_assign .n (.t rfl) rfl <|
      Lex.nil) ?_
  exact run_ret [] (.cons (.t rfl rfl) .nil) rfl trivial rfl

/-! ### impl_ValidChecks -/
theorem c_impl_ValidChecks (list : List gCheck) : Con Try.prog 48 [.sl 3 (list.map gCheck.v)] [] (.bool (m_impl_ValidChecks list)) ([]) := by
  refine con_intro (out := fun r : Bool => ((.bool r : V), ([] : List (Nat × Option O)))) (r := (m_impl_ValidChecks list)) Try.func48 rfl Try.ntmps48 rfl ?_
  refine run_fact (t := 0) rfl fun hl => ?_
  have l1 := hl; clear hl; simp only [List.length_map] at l1
  refine run_seq ?_
  refine run_region (q_assign .n (.c rfl) rfl <|
      Lex.nil) ?_
  refine run_seq ?_
  refine run_seq ?_
  refine run_region (q_move .n (.t rfl) rfl <|
      q_len .n (.t rfl) rfl len_map ss_27 rfl <|
      q_int .n (.t rfl) (.c rfl) rfl rfl <|
      Lex.nil) ?_
  refine run_cond (.t rfl) rfl (fun h2 => ?_) (fun h2 => ?_)
  · try simp only [Bool.and_eq_true, Bool.or_eq_true, Bool.not_eq_true', Bool.and_eq_false_iff, Bool.or_eq_false_iff, Bool.not_eq_false', decide_eq_true_eq, decide_eq_false_iff_not, beq_iff_eq, bne_iff_ne, beq_eq_false_iff_ne, bne_eq_false_iff_eq, Bool.true_and, ne_eq, Decidable.not_not, Int.not_lt, Int.not_le, Nat.not_lt, Nat.not_le, strB_nil, strB_nil', strB_nnil, strB_nnil'] at h2
    refine run_seq ?_
    refine run_region (q_assign .n (.c rfl) rfl <|
        Lex.nil) ?_
    exact run_ret [] (.cons (.t rfl rfl) .nil) rfl trivial rfl
  · try simp only [Bool.and_eq_true, Bool.or_eq_true, Bool.not_eq_true', Bool.and_eq_false_iff, Bool.or_eq_false_iff, Bool.not_eq_false', decide_eq_true_eq, decide_eq_false_iff_not, beq_iff_eq, bne_iff_ne, beq_eq_false_iff_ne, bne_eq_false_iff_eq, Bool.true_and, ne_eq, Decidable.not_not, Int.not_lt, Int.not_le, Nat.not_lt, Nat.not_le, strB_nil, strB_nil', strB_nnil, strB_nnil'] at h2
    refine run_skip ?_
    refine run_seq ?_
    refine run_seq ?_
    refine run_region (q_move .n (.t rfl) rfl <|
        q_len .n (.t rfl) rfl len_map ss_27 rfl <|
        q_move .n (.c rfl) rfl <|
        Lex.nil) ?_
    refine run_block ?_
    refine run_LOOP (m_impl_ValidChecks_b1 list) _ _ _ rfl (fun (x1 : Int) => 0 ≤ x1 ∧ x1 ≤ (list.length : Int)) (fun x1 => 0 ≤ x1 ∧ x1 ≤ (list.length : Int) ∧ (list.length : Int) ≤ x1) (fun x1 => ((list.length : Int) - x1 : Int).toNat) (fun x1 => ⟨[(0, some (true, .sl 3 (list.map gCheck.v))), (8, some (true, .sl 3 (list.map gCheck.v))), (9, some (true, .int .i64 (list.length : Int))), (10, some (true, .int .i64 x1))], []⟩) (fun x1 => ⟨[], []⟩) ⟨by first | omega | assumption | (simp only [List.length_append, List.length_cons, List.length_nil, List.length_replicate, put_len] at * <;> omega), by first | omega | assumption | (simp only [List.length_append, List.length_cons, List.length_nil, List.length_replicate, put_len] at * <;> omega)⟩ (by first | omega | assumption | (simp only [List.length_append, List.length_cons, List.length_nil, List.length_replicate, put_len] at * <;> omega)) (sub_of [] ⟨rfl, rfl, rfl, rfl, trivial⟩ trivial rfl) ?_ ?_
    · intro x1 i7
      obtain ⟨e8, e9, e10⟩ := i7
      try dsimp only at *
      refine run_seq ?_
      refine run_region (q_assign .n (.c rfl) rfl <|
          Lex.nil) ?_
      exact run_ret [] (.cons (.t rfl rfl) .nil) rfl trivial rfl
    · intro rec1 k1 hk3 x1 i4
      obtain ⟨e11, e12⟩ := i4
      try dsimp only at *
      refine run_seq ?_
      refine run_region (q_int .n (.t rfl) (.t rfl) rfl rfl <|
          Lex.nil) ?_
      refine run_seq ?_
      refine run_cond (.t rfl) rfl (fun h5 => ?_) (fun h5 => ?_)
      · try simp only [Bool.and_eq_true, Bool.or_eq_true, Bool.not_eq_true', Bool.and_eq_false_iff, Bool.or_eq_false_iff, Bool.not_eq_false', decide_eq_true_eq, decide_eq_false_iff_not, beq_iff_eq, bne_iff_ne, beq_eq_false_iff_ne, bne_eq_false_iff_eq, Bool.true_and, ne_eq, Decidable.not_not, Int.not_lt, Int.not_le, Nat.not_lt, Nat.not_le, strB_nil, strB_nil', strB_nnil, strB_nnil'] at h5
        refine run_skip ?_
        refine run_seq ?_
        refine run_block ?_
        refine run_seq ?_
        refine run_region (q_move .n (.t rfl) rfl <|
            q_idx_rm .n (.t rfl) (.t rfl) sl_27 (fun _ => by first | omega | assumption | (simp only [List.length_append, List.length_cons, List.length_nil, List.length_replicate, put_len] at * <;> omega)) rfl <|
            q_ldN_ro .n (.t rfl) ag_83 rfl rfl rfl <|
            q_alloc (l := 200) .n rfl zv_83 rfl rfl <|
            q_assign .n (.t rfl) rfl <|
            q_st_boxm [.str (at' list x1).Id, .int .i64 (at' list x1).Every, .int .i64 (at' list x1).Last] .n rfl (.t rfl) (.t rfl) rfl ts_83 rfl rfl <|
            Lex.nil) ?_
        refine run_seq ?_
        refine run_draw fmo (q_ldN_ow .n (.t rfl) rfl (.inr rfl) ag_83 (fun _ => rfl) rfl rfl <|
            q_call0 (full := false) .n .f en_95 (.cons (.t rfl) .nil) (.cons (.sts rfl) .nil) (fun hg => c_impl_Check_valid (at' list x1)) rfl (fun h => Bool.noConfusion h) rfl <|
            q_not .n (.t rfl) rfl <|
            q_move .n (.t rfl) rfl <|
            q_move (.f rfl rfl) (.t rfl) rfl <|
            q_int (.f rfl rfl) (.u rfl id) (.c rfl) rfl rfl <|
            q_move (.f rfl rfl) (.u rfl id) rfl <|
            q_fld_ow (.t rfl rfl) (.t rfl) fo_83_0 rfl <|
            q_ld1_ow (.t rfl rfl) (.u rfl id) rfl (.inr rfl) (fun _ => rfl) rfl ic_9 rfl <|
            q_move (.t rfl rfl) (.t rfl) rfl <|
            q_move (.t rfl rfl) (.t rfl) rfl <|
            q_sub (.t rfl rfl) (.u rfl id) (.c rfl) (fun hg => by simp only [Bool.and_eq_true, Bool.or_eq_true, Bool.not_eq_true', Bool.and_eq_false_iff, Bool.or_eq_false_iff, Bool.not_eq_false', decide_eq_true_eq, decide_eq_false_iff_not, beq_iff_eq, bne_iff_ne, beq_eq_false_iff_ne, bne_eq_false_iff_eq, Bool.true_and, ne_eq, Decidable.not_not, Int.not_lt, Int.not_le, Nat.not_lt, Nat.not_le, strB_nil, strB_nil', strB_nnil, strB_nnil'] at hg; first | omega | assumption | (simp only [List.length_append, List.length_cons, List.length_nil, List.length_replicate, put_len] at * <;> omega)) rfl <|
            q_idx_rm (.t rfl rfl) (.u rfl id) (.u rfl id) sl_27 (fun hg => by simp only [Bool.and_eq_true, Bool.or_eq_true, Bool.not_eq_true', Bool.and_eq_false_iff, Bool.or_eq_false_iff, Bool.not_eq_false', decide_eq_true_eq, decide_eq_false_iff_not, beq_iff_eq, bne_iff_ne, beq_eq_false_iff_ne, bne_eq_false_iff_eq, Bool.true_and, ne_eq, Decidable.not_not, Int.not_lt, Int.not_le, Nat.not_lt, Nat.not_le, strB_nil, strB_nil', strB_nnil, strB_nnil'] at hg; first | omega | assumption | (simp only [List.length_append, List.length_cons, List.length_nil, List.length_replicate, put_len] at * <;> omega)) rfl <|
            q_fld_ro (.t rfl rfl) (.u rfl id) fo_83_0 rfl <|
            q_ld1_ro (.t rfl rfl) (.u rfl id) rfl ic_9 rfl <|
            q_strcmp (.t rfl rfl) (.u rfl id) (.u rfl id) rfl rfl <|
            q_and (.f rfl rfl) (.u rfl id) (.u rfl id) rfl <|
            q_or .n (.t rfl) (.u rfl id) rfl <|
            Lex.nil) (by kernel_rfl) ?_
        refine run_cond (.t rfl) rfl (fun h6 => ?_) (fun h6 => ?_)
        · try simp only [Bool.and_eq_true, Bool.or_eq_true, Bool.not_eq_true', Bool.and_eq_false_iff, Bool.or_eq_false_iff, Bool.not_eq_false', decide_eq_true_eq, decide_eq_false_iff_not, beq_iff_eq, bne_iff_ne, beq_eq_false_iff_ne, bne_eq_false_iff_eq, Bool.true_and, ne_eq, Decidable.not_not, Int.not_lt, Int.not_le, Nat.not_lt, Nat.not_le, strB_nil, strB_nil', strB_nnil, strB_nnil'] at h6
          refine run_seq ?_
          refine run_region (q_assign .n (.c rfl) rfl <|
              Lex.nil) ?_
          exact run_ret [] (.cons (.t rfl rfl) .nil) rfl trivial rfl
        · try simp only [Bool.and_eq_true, Bool.or_eq_true, Bool.not_eq_true', Bool.and_eq_false_iff, Bool.or_eq_false_iff, Bool.not_eq_false', decide_eq_true_eq, decide_eq_false_iff_not, beq_iff_eq, bne_iff_ne, beq_eq_false_iff_ne, bne_eq_false_iff_eq, Bool.true_and, ne_eq, Decidable.not_not, Int.not_lt, Int.not_le, Nat.not_lt, Nat.not_le, strB_nil, strB_nil', strB_nnil, strB_nnil'] at h6
          refine run_skip ?_
          refine run_endB ?_
          refine run_region (q_add .n (.t rfl) (.c rfl) (fun _ => by first | omega | assumption | (simp only [List.length_append, List.length_cons, List.length_nil, List.length_replicate, put_len] at * <;> omega)) rfl <|
              q_move .n (.t rfl) rfl <|
              Lex.nil) ?_
          exact run_again (x1 + 1) ⟨by first | omega | assumption | (simp only [List.length_append, List.length_cons, List.length_nil, List.length_replicate, put_len] at * <;> omega), by first | omega | assumption | (simp only [List.length_append, List.length_cons, List.length_nil, List.length_replicate, put_len] at * <;> omega)⟩ (by first | omega | assumption | (simp only [List.length_append, List.length_cons, List.length_nil, List.length_replicate, put_len] at * <;> omega)) (sub_of [] ⟨rfl, rfl, rfl, rfl, trivial⟩ trivial rfl)
      · try simp only [Bool.and_eq_true, Bool.or_eq_true, Bool.not_eq_true', Bool.and_eq_false_iff, Bool.or_eq_false_iff, Bool.not_eq_false', decide_eq_true_eq, decide_eq_false_iff_not, beq_iff_eq, bne_iff_ne, beq_eq_false_iff_ne, bne_eq_false_iff_eq, Bool.true_and, ne_eq, Decidable.not_not, Int.not_lt, Int.not_le, Nat.not_lt, Nat.not_le, strB_nil, strB_nil', strB_nnil, strB_nnil'] at h5
        refine run_exit rfl ?_
        exact run_cont hk3 x1 ⟨by first | omega | assumption | (simp only [List.length_append, List.length_cons, List.length_nil, List.length_replicate, put_len] at * <;> omega), by first | omega | assumption | (simp only [List.length_append, List.length_cons, List.length_nil, List.length_replicate, put_len] at * <;> omega), by first | omega | assumption | (simp only [List.length_append, List.length_cons, List.length_nil, List.length_replicate, put_len] at * <;> omega)⟩ (sub_of [] trivial trivial rfl)

/-! ### slices_insertionSortCmpFunc_int -/
set_option maxRecDepth 100000 in
theorem c_slices_insertionSortCmpFunc_int (data : List Int) (a : Int) (b : Int) (cmp : Int → Int → Int) (F_cmp : FuncId) (C_cmp : List V) (he_cmp : entB Try.prog F_cmp = true) (hr_cmp : C_cmp.all V.ro = true) (Q_cmp : Int → Prop) (hc_cmp : ∀ (a0 : Int) (a1 : Int), Q_cmp a0 → Q_cmp a1 → Con Try.prog F_cmp ([.int .i64 a0, .int .i64 a1] ++ C_cmp) [] (.int .i64 (cmp a0 a1)) []) (hp1 : 0 ≤ a ∧ a ≤ b ∧ b ≤ data.length) (hp2 : data.length ≤ 1000) (hp3 : ∀ x ∈ data, Q_cmp x) : Con Try.prog 140 [.os 0 data.length, .int .i64 a, .int .i64 b, .clo F_cmp C_cmp] [(0, some (.row 3 1 (data.map (V.int .i64))))] (.tup []) ([(0, some (.row 3 1 ((m_slices_insertionSortCmpFunc_int data a b cmp).map (V.int .i64))))]) := by
  refine con_intro (out := fun r : (List Int) => ((.tup [] : V), ([(0, some (.row 3 1 (r.map (V.int .i64))))] : List (Nat × Option O)))) (r := (m_slices_insertionSortCmpFunc_int data a b cmp)) Try.func140 rfl Try.ntmps140 rfl ?_
  have hW := wr64 (n := a + 1) (by omega)
  refine run_factH (l := 0) rfl fun hl => ?_
  have l1 := hl; clear hl; simp only [List.length_map] at l1
  refine run_seq ?_
  refine run_region (q_move .n (.t rfl) rfl <|
      q_int .n (.t rfl) (.c rfl) rfl rfl <|
      q_assign .n (.t rfl) rfl <|
      Lex.nil) ?_
  refine run_block ?_
  refine run_LOOP (m_slices_insertionSortCmpFunc_int_b1 data a b cmp) _ _ _ rfl (fun (x1 : (List Int) × Int) => IntKind.wrap .i64 (a + 1) ≤ x1.2 ∧ x1.1.length = data.length ∧ a < x1.2 ∧ (∀ x ∈ x1.1, Q_cmp x)) (fun x1 => IntKind.wrap .i64 (a + 1) ≤ x1.2 ∧ x1.1.length = data.length ∧ a < x1.2 ∧ (∀ x ∈ x1.1, Q_cmp x)) (fun x1 => (b - x1.2 : Int).toNat) (fun x1 => ⟨[(0, some (true, .os 0 x1.1.length)), (1, some (true, .int .i64 a)), (2, some (true, .int .i64 b)), (3, some (true, .clo F_cmp C_cmp)), (8, some (true, .int .i64 x1.2))], [(0, some (.row 3 1 (x1.1.map (V.int .i64))))]⟩) (fun x1 => ⟨[], [(0, some (.row 3 1 (x1.1.map (V.int .i64))))]⟩) ⟨by first | omega | assumption | (simp only [List.length_append, List.length_cons, List.length_nil, List.length_replicate, put_len] at * <;> omega) | ((dsimp only; omega)) | ((dsimp only; exact swap_all (by assumption) (by omega) (by omega) (by omega))), by first | omega | assumption | (simp only [List.length_append, List.length_cons, List.length_nil, List.length_replicate, put_len] at * <;> omega) | ((dsimp only; omega)) | ((dsimp only; exact swap_all (by assumption) (by omega) (by omega) (by omega))), by first | omega | assumption | (simp only [List.length_append, List.length_cons, List.length_nil, List.length_replicate, put_len] at * <;> omega) | ((dsimp only; omega)) | ((dsimp only; exact swap_all (by assumption) (by omega) (by omega) (by omega))), by first | omega | assumption | (simp only [List.length_append, List.length_cons, List.length_nil, List.length_replicate, put_len] at * <;> omega) | ((dsimp only; omega)) | ((dsimp only; exact swap_all (by assumption) (by omega) (by omega) (by omega)))⟩ (by first | omega | assumption | (simp only [List.length_append, List.length_cons, List.length_nil, List.length_replicate, put_len] at * <;> omega) | ((dsimp only; omega)) | ((dsimp only; exact swap_all (by assumption) (by omega) (by omega) (by omega)))) (sub_of [] ⟨rfl, rfl, rfl, clo_ren hr_cmp rfl, rfl, trivial⟩ ⟨rfl, trivial⟩ rfl) ?_ ?_
  · intro x1 i21
    obtain ⟨e22, e23, e24, e25⟩ := i21
    try dsimp only at *
    exact run_end [] .nil rfl ⟨rfl, trivial⟩ rfl
  · intro rec1 k1 hk2 x1 i3
    obtain ⟨e26, e27, e28, e29⟩ := i3
    try dsimp only at *
    refine run_seq ?_
    refine run_seq ?_
    refine run_region (q_move .n (.t rfl) rfl <|
        q_move .n (.t rfl) rfl <|
        q_int .n (.t rfl) (.t rfl) rfl rfl <|
        Lex.nil) ?_
    refine run_cond (.t rfl) rfl (fun h4 => ?_) (fun h4 => ?_)
    · try simp only [Bool.and_eq_true, Bool.or_eq_true, Bool.not_eq_true', Bool.and_eq_false_iff, Bool.or_eq_false_iff, Bool.not_eq_false', decide_eq_true_eq, decide_eq_false_iff_not, beq_iff_eq, bne_iff_ne, beq_eq_false_iff_ne, bne_eq_false_iff_eq, Bool.true_and, ne_eq, Decidable.not_not, Int.not_lt, Int.not_le, Nat.not_lt, Nat.not_le, strB_nil, strB_nil', strB_nnil, strB_nnil'] at h4
      refine run_skip ?_
      refine run_seq ?_
      refine run_block ?_
      refine run_seq ?_
      refine run_region (q_move .n (.t rfl) rfl <|
          q_assign .n (.t rfl) rfl <|
          Lex.nil) ?_
      refine run_block ?_
      refine run_LOOP (m_slices_insertionSortCmpFunc_int_b2 data a b cmp rec1 k1 x1) _ _ _ rfl (fun (x2 : (List Int) × Int) => x2.2 ≤ x1.2 ∧ x2.1.length = x1.1.length ∧ x2.1.length = data.length ∧ a ≤ x2.2 ∧ x2.2 ≤ x1.2 ∧ (∀ x ∈ x2.1, Q_cmp x)) (fun x2 => x2.2 ≤ x1.2 ∧ x2.1.length = x1.1.length ∧ x2.1.length = data.length ∧ a ≤ x2.2 ∧ x2.2 ≤ x1.2 ∧ (∀ x ∈ x2.1, Q_cmp x)) (fun x2 => x2.2.toNat) (fun x2 => ⟨[(0, some (true, .os 0 x2.1.length)), (1, some (true, .int .i64 a)), (2, some (true, .int .i64 b)), (3, some (true, .clo F_cmp C_cmp)), (8, some (true, .int .i64 x1.2)), (9, some (true, .int .i64 x2.2))], [(0, some (.row 3 1 (x2.1.map (V.int .i64))))]⟩) (fun x2 => ⟨[(0, some (true, .os 0 x2.1.length)), (1, some (true, .int .i64 a)), (2, some (true, .int .i64 b)), (3, some (true, .clo F_cmp C_cmp)), (8, some (true, .int .i64 x1.2))], [(0, some (.row 3 1 (x2.1.map (V.int .i64))))]⟩) ⟨by first | omega | assumption | (simp only [List.length_append, List.length_cons, List.length_nil, List.length_replicate, put_len] at * <;> omega) | ((dsimp only; omega)) | ((dsimp only; exact swap_all (by assumption) (by omega) (by omega) (by omega))), by first | omega | assumption | (simp only [List.length_append, List.length_cons, List.length_nil, List.length_replicate, put_len] at * <;> omega) | ((dsimp only; omega)) | ((dsimp only; exact swap_all (by assumption) (by omega) (by omega) (by omega))), by first | omega | assumption | (simp only [List.length_append, List.length_cons, List.length_nil, List.length_replicate, put_len] at * <;> omega) | ((dsimp only; omega)) | ((dsimp only; exact swap_all (by assumption) (by omega) (by omega) (by omega))), by first | omega | assumption | (simp only [List.length_append, List.length_cons, List.length_nil, List.length_replicate, put_len] at * <;> omega) | ((dsimp only; omega)) | ((dsimp only; exact swap_all (by assumption) (by omega) (by omega) (by omega))), by first | omega | assumption | (simp only [List.length_append, List.length_cons, List.length_nil, List.length_replicate, put_len] at * <;> omega) | ((dsimp only; omega)) | ((dsimp only; exact swap_all (by assumption) (by omega) (by omega) (by omega))), by first | omega | assumption | (simp only [List.length_append, List.length_cons, List.length_nil, List.length_replicate, put_len] at * <;> omega) | ((dsimp only; omega)) | ((dsimp only; exact swap_all (by assumption) (by omega) (by omega) (by omega)))⟩ (by first | omega | assumption | (simp only [List.length_append, List.length_cons, List.length_nil, List.length_replicate, put_len] at * <;> omega) | ((dsimp only; omega)) | ((dsimp only; exact swap_all (by assumption) (by omega) (by omega) (by omega)))) (sub_of [] ⟨rfl, rfl, rfl, clo_ren hr_cmp rfl, rfl, rfl, trivial⟩ ⟨rfl, trivial⟩ rfl) ?_ ?_
      · intro x2 i8
        obtain ⟨e9, e10, e11, e12, e13, e14⟩ := i8
        try dsimp only at *
        refine run_endB ?_
        refine run_region (q_move .n (.t rfl) rfl <|
            q_add .n (.t rfl) (.c rfl) (fun _ => by first | omega | assumption | (simp only [List.length_append, List.length_cons, List.length_nil, List.length_replicate, put_len] at * <;> omega) | ((dsimp only; omega)) | ((dsimp only; exact swap_all (by assumption) (by omega) (by omega) (by omega)))) rfl <|
            q_assign .n (.t rfl) rfl <|
            Lex.nil) ?_
        exact run_again (x2.1, x1.2 + 1) ⟨by first | omega | assumption | (simp only [List.length_append, List.length_cons, List.length_nil, List.length_replicate, put_len] at * <;> omega) | ((dsimp only; omega)) | ((dsimp only; exact swap_all (by assumption) (by omega) (by omega) (by omega))), by first | omega | assumption | (simp only [List.length_append, List.length_cons, List.length_nil, List.length_replicate, put_len] at * <;> omega) | ((dsimp only; omega)) | ((dsimp only; exact swap_all (by assumption) (by omega) (by omega) (by omega))), by first | omega | assumption | (simp only [List.length_append, List.length_cons, List.length_nil, List.length_replicate, put_len] at * <;> omega) | ((dsimp only; omega)) | ((dsimp only; exact swap_all (by assumption) (by omega) (by omega) (by omega))), by first | omega | assumption | (simp only [List.length_append, List.length_cons, List.length_nil, List.length_replicate, put_len] at * <;> omega) | ((dsimp only; omega)) | ((dsimp only; exact swap_all (by assumption) (by omega) (by omega) (by omega)))⟩ (by first | omega | assumption | (simp only [List.length_append, List.length_cons, List.length_nil, List.length_replicate, put_len] at * <;> omega) | ((dsimp only; omega)) | ((dsimp only; exact swap_all (by assumption) (by omega) (by omega) (by omega)))) (sub_of [] ⟨rfl, rfl, rfl, clo_ren hr_cmp rfl, rfl, trivial⟩ ⟨rfl, trivial⟩ rfl)
      · intro rec2 k2 hk5 x2 i6
        obtain ⟨e15, e16, e17, e18, e19, e20⟩ := i6
        try dsimp only at *
        refine run_seq ?_
        refine run_seq ?_
        refine run_draw fmo (q_move .n (.t rfl) rfl <|
            q_move .n (.t rfl) rfl <|
            q_int .n (.t rfl) (.t rfl) rfl rfl <|
            q_move .n (.t rfl) rfl <|
            q_move (.t rfl rfl) (.t rfl) rfl <|
            q_move (.t rfl rfl) (.t rfl) rfl <|
            q_move (.t rfl rfl) (.t rfl) rfl <|
            q_idx_ow (.t rfl rfl) (.u rfl id) (.u rfl id) sl_140 (fun hg => by simp only [Bool.and_eq_true, Bool.or_eq_true, Bool.not_eq_true', Bool.and_eq_false_iff, Bool.or_eq_false_iff, Bool.not_eq_false', decide_eq_true_eq, decide_eq_false_iff_not, beq_iff_eq, bne_iff_ne, beq_eq_false_iff_ne, bne_eq_false_iff_eq, Bool.true_and, ne_eq, Decidable.not_not, Int.not_lt, Int.not_le, Nat.not_lt, Nat.not_le, strB_nil, strB_nil', strB_nnil, strB_nnil'] at hg; first | omega | assumption | (simp only [List.length_append, List.length_cons, List.length_nil, List.length_replicate, put_len] at * <;> omega) | ((dsimp only; omega)) | ((dsimp only; exact swap_all (by assumption) (by omega) (by omega) (by omega)))) rfl <|
            q_ld1_row (.t rfl rfl) (.u rfl id) rfl (fun hg => by simp only [Bool.and_eq_true, Bool.or_eq_true, Bool.not_eq_true', Bool.and_eq_false_iff, Bool.or_eq_false_iff, Bool.not_eq_false', decide_eq_true_eq, decide_eq_false_iff_not, beq_iff_eq, bne_iff_ne, beq_eq_false_iff_ne, bne_eq_false_iff_eq, Bool.true_and, ne_eq, Decidable.not_not, Int.not_lt, Int.not_le, Nat.not_lt, Nat.not_le, strB_nil, strB_nil', strB_nnil, strB_nnil'] at hg; first | omega | assumption | (simp only [List.length_append, List.length_cons, List.length_nil, List.length_replicate, put_len] at * <;> omega) | ((dsimp only; omega)) | ((dsimp only; exact swap_all (by assumption) (by omega) (by omega) (by omega)))) rfl rfl rfl ic_3 rfl <|
            q_move (.t rfl rfl) (.t rfl) rfl <|
            q_move (.t rfl rfl) (.t rfl) rfl <|
            q_sub (.t rfl rfl) (.u rfl id) (.c rfl) (fun hg => by simp only [Bool.and_eq_true, Bool.or_eq_true, Bool.not_eq_true', Bool.and_eq_false_iff, Bool.or_eq_false_iff, Bool.not_eq_false', decide_eq_true_eq, decide_eq_false_iff_not, beq_iff_eq, bne_iff_ne, beq_eq_false_iff_ne, bne_eq_false_iff_eq, Bool.true_and, ne_eq, Decidable.not_not, Int.not_lt, Int.not_le, Nat.not_lt, Nat.not_le, strB_nil, strB_nil', strB_nnil, strB_nnil'] at hg; first | omega | assumption | (simp only [List.length_append, List.length_cons, List.length_nil, List.length_replicate, put_len] at * <;> omega) | ((dsimp only; omega)) | ((dsimp only; exact swap_all (by assumption) (by omega) (by omega) (by omega)))) rfl <|
            q_idx_ow (.t rfl rfl) (.u rfl id) (.u rfl id) sl_140 (fun hg => by simp only [Bool.and_eq_true, Bool.or_eq_true, Bool.not_eq_true', Bool.and_eq_false_iff, Bool.or_eq_false_iff, Bool.not_eq_false', decide_eq_true_eq, decide_eq_false_iff_not, beq_iff_eq, bne_iff_ne, beq_eq_false_iff_ne, bne_eq_false_iff_eq, Bool.true_and, ne_eq, Decidable.not_not, Int.not_lt, Int.not_le, Nat.not_lt, Nat.not_le, strB_nil, strB_nil', strB_nnil, strB_nnil'] at hg; first | omega | assumption | (simp only [List.length_append, List.length_cons, List.length_nil, List.length_replicate, put_len] at * <;> omega) | ((dsimp only; omega)) | ((dsimp only; exact swap_all (by assumption) (by omega) (by omega) (by omega)))) rfl <|
            q_ld1_row (.t rfl rfl) (.u rfl id) rfl (fun hg => by simp only [Bool.and_eq_true, Bool.or_eq_true, Bool.not_eq_true', Bool.and_eq_false_iff, Bool.or_eq_false_iff, Bool.not_eq_false', decide_eq_true_eq, decide_eq_false_iff_not, beq_iff_eq, bne_iff_ne, beq_eq_false_iff_ne, bne_eq_false_iff_eq, Bool.true_and, ne_eq, Decidable.not_not, Int.not_lt, Int.not_le, Nat.not_lt, Nat.not_le, strB_nil, strB_nil', strB_nnil, strB_nnil'] at hg; first | omega | assumption | (simp only [List.length_append, List.length_cons, List.length_nil, List.length_replicate, put_len] at * <;> omega) | ((dsimp only; omega)) | ((dsimp only; exact swap_all (by assumption) (by omega) (by omega) (by omega)))) rfl rfl rfl ic_3 rfl <|
            q_call0 (full := false) (.t rfl rfl) (.c (.u rfl id)) he_cmp (.cons (.u rfl id) (.cons (.u rfl id) .nil)) (passes_app hr_cmp (.cons (.b (.a (.same rfl))) (.cons (.b (.a (.same rfl))) .nil))) (fun hg => hc_cmp (at' x2.1 x2.2) (at' x2.1 (x2.2 - 1)) (by first | exact at_all (by assumption) (by omega) | (simp only [Bool.true_and, decide_eq_true_eq] at hg; exact at_all (by assumption) (by omega))) (by first | exact at_all (by assumption) (by omega) | (simp only [Bool.true_and, decide_eq_true_eq] at hg; exact at_all (by assumption) (by omega)))) rfl (fun h => Bool.noConfusion h) rfl <|
            q_int (.t rfl rfl) (.u rfl id) (.c rfl) rfl rfl <|
            q_and .n (.t rfl) (.u rfl id) rfl <|
            Lex.nil) (by kernel_rfl) ?_
        refine run_cond (.t rfl) rfl (fun h7 => ?_) (fun h7 => ?_)
        · try simp only [Bool.and_eq_true, Bool.or_eq_true, Bool.not_eq_true', Bool.and_eq_false_iff, Bool.or_eq_false_iff, Bool.not_eq_false', decide_eq_true_eq, decide_eq_false_iff_not, beq_iff_eq, bne_iff_ne, beq_eq_false_iff_ne, bne_eq_false_iff_eq, Bool.true_and, ne_eq, Decidable.not_not, Int.not_lt, Int.not_le, Nat.not_lt, Nat.not_le, strB_nil, strB_nil', strB_nnil, strB_nnil'] at h7
          refine run_skip ?_
          refine run_seq ?_
          refine run_block ?_
          refine run_draw fmo (q_move .n (.t rfl) rfl <|
              q_move .n (.t rfl) rfl <|
              q_move .n (.t rfl) rfl <|
              q_move .n (.t rfl) rfl <|
              q_sub .n (.t rfl) (.c rfl) (fun _ => by first | omega | assumption | (simp only [List.length_append, List.length_cons, List.length_nil, List.length_replicate, put_len] at * <;> omega) | ((dsimp only; omega)) | ((dsimp only; exact swap_all (by assumption) (by omega) (by omega) (by omega)))) rfl <|
              q_move .n (.t rfl) rfl <|
              q_move .n (.t rfl) rfl <|
              q_sub .n (.t rfl) (.c rfl) (fun _ => by first | omega | assumption | (simp only [List.length_append, List.length_cons, List.length_nil, List.length_replicate, put_len] at * <;> omega) | ((dsimp only; omega)) | ((dsimp only; exact swap_all (by assumption) (by omega) (by omega) (by omega)))) rfl <|
              q_idx_ow .n (.t rfl) (.t rfl) sl_140 (fun _ => by first | omega | assumption | (simp only [List.length_append, List.length_cons, List.length_nil, List.length_replicate, put_len] at * <;> omega) | ((dsimp only; omega)) | ((dsimp only; exact swap_all (by assumption) (by omega) (by omega) (by omega)))) rfl <|
              q_ld1_row .n (.t rfl) rfl (fun _ => by first | omega | assumption | (simp only [List.length_append, List.length_cons, List.length_nil, List.length_replicate, put_len] at * <;> omega) | ((dsimp only; omega)) | ((dsimp only; exact swap_all (by assumption) (by omega) (by omega) (by omega)))) rfl rfl rfl ic_3 rfl <|
              q_move .n (.t rfl) rfl <|
              q_move .n (.t rfl) rfl <|
              q_idx_ow .n (.t rfl) (.t rfl) sl_140 (fun _ => by first | omega | assumption | (simp only [List.length_append, List.length_cons, List.length_nil, List.length_replicate, put_len] at * <;> omega) | ((dsimp only; omega)) | ((dsimp only; exact swap_all (by assumption) (by omega) (by omega) (by omega)))) rfl <|
              q_ld1_row .n (.t rfl) rfl (fun _ => by first | omega | assumption | (simp only [List.length_append, List.length_cons, List.length_nil, List.length_replicate, put_len] at * <;> omega) | ((dsimp only; omega)) | ((dsimp only; exact swap_all (by assumption) (by omega) (by omega) (by omega)))) rfl rfl rfl ic_3 rfl <|
              q_idx_ow .n (.t rfl) (.t rfl) sl_140 (fun _ => by first | omega | assumption | (simp only [List.length_append, List.length_cons, List.length_nil, List.length_replicate, put_len] at * <;> omega) | ((dsimp only; omega)) | ((dsimp only; exact swap_all (by assumption) (by omega) (by omega) (by omega)))) rfl <|
              q_st_rowm (at' x2.1 (x2.2 - 1)) .n rfl (.t rfl) (.t rfl) rfl ts_3 (by first | omega | assumption | (simp only [List.length_append, List.length_cons, List.length_nil, List.length_replicate, put_len] at * <;> omega) | ((dsimp only; omega)) | ((dsimp only; exact swap_all (by assumption) (by omega) (by omega) (by omega)))) rfl rfl <|
              q_idx_ow .n (.t rfl) (.t rfl) sl_140 (fun _ => by first | omega | assumption | (simp only [List.length_append, List.length_cons, List.length_nil, List.length_replicate, put_len] at * <;> omega) | ((dsimp only; omega)) | ((dsimp only; exact swap_all (by assumption) (by omega) (by omega) (by omega)))) rfl <|
              q_st_rowm (at' x2.1 x2.2) .n rfl (.t rfl) (.t rfl) rfl ts_3 (by first | omega | assumption | (simp only [List.length_append, List.length_cons, List.length_nil, List.length_replicate, put_len] at * <;> omega) | ((dsimp only; omega)) | ((dsimp only; exact swap_all (by assumption) (by omega) (by omega) (by omega)))) rfl rfl <|
              Lex.nil) (by kernel_rfl) ?_
          refine run_endB ?_
          refine run_region (q_move .n (.t rfl) rfl <|
              q_sub .n (.t rfl) (.c rfl) (fun _ => by first | omega | assumption | (simp only [List.length_append, List.length_cons, List.length_nil, List.length_replicate, put_len] at * <;> omega) | ((dsimp only; omega)) | ((dsimp only; exact swap_all (by assumption) (by omega) (by omega) (by omega)))) rfl <|
              q_assign .n (.t rfl) rfl <|
              Lex.nil) ?_
          exact run_again (put' (put' x2.1 x2.2 (at' x2.1 (x2.2 - 1))) (x2.2 - 1) (at' x2.1 x2.2), x2.2 - 1) ⟨by first | omega | assumption | (simp only [List.length_append, List.length_cons, List.length_nil, List.length_replicate, put_len] at * <;> omega) | ((dsimp only; omega)) | ((dsimp only; exact swap_all (by assumption) (by omega) (by omega) (by omega))), by first | omega | assumption | (simp only [List.length_append, List.length_cons, List.length_nil, List.length_replicate, put_len] at * <;> omega) | ((dsimp only; omega)) | ((dsimp only; exact swap_all (by assumption) (by omega) (by omega) (by omega))), by first | omega | assumption | (simp only [List.length_append, List.length_cons, List.length_nil, List.length_replicate, put_len] at * <;> omega) | ((dsimp only; omega)) | ((dsimp only; exact swap_all (by assumption) (by omega) (by omega) (by omega))), by first | omega | assumption | (simp only [List.length_append, List.length_cons, List.length_nil, List.length_replicate, put_len] at * <;> omega) | ((dsimp only; omega)) | ((dsimp only; exact swap_all (by assumption) (by omega) (by omega) (by omega))), by first | omega | assumption | (simp only [List.length_append, List.length_cons, List.length_nil, List.length_replicate, put_len] at * <;> omega) | ((dsimp only; omega)) | ((dsimp only; exact swap_all (by assumption) (by omega) (by omega) (by omega))), by first | omega | assumption | (simp only [List.length_append, List.length_cons, List.length_nil, List.length_replicate, put_len] at * <;> omega) | ((dsimp only; omega)) | ((dsimp only; exact swap_all (by assumption) (by omega) (by omega) (by omega)))⟩ (by first | omega | assumption | (simp only [List.length_append, List.length_cons, List.length_nil, List.length_replicate, put_len] at * <;> omega) | ((dsimp only; omega)) | ((dsimp only; exact swap_all (by assumption) (by omega) (by omega) (by omega)))) (sub_of [] ⟨os_len rfl (by first | (simp only [put_len]; done) | (first | omega | assumption | (simp only [List.length_append, List.length_cons, List.length_nil, List.length_replicate, put_len] at * <;> omega) | ((dsimp only; omega)) | ((dsimp only; exact swap_all (by assumption) (by omega) (by omega) (by omega))))), rfl, rfl, clo_ren hr_cmp rfl, rfl, rfl, trivial⟩ ⟨rfl, trivial⟩ rfl)
        · try simp only [Bool.and_eq_true, Bool.or_eq_true, Bool.not_eq_true', Bool.and_eq_false_iff, Bool.or_eq_false_iff, Bool.not_eq_false', decide_eq_true_eq, decide_eq_false_iff_not, beq_iff_eq, bne_iff_ne, beq_eq_false_iff_ne, bne_eq_false_iff_eq, Bool.true_and, ne_eq, Decidable.not_not, Int.not_lt, Int.not_le, Nat.not_lt, Nat.not_le, strB_nil, strB_nil', strB_nnil, strB_nnil'] at h7
          refine run_exit rfl ?_
          exact run_cont hk5 (x2.1, x2.2) ⟨by first | omega | assumption | (simp only [List.length_append, List.length_cons, List.length_nil, List.length_replicate, put_len] at * <;> omega) | ((dsimp only; omega)) | ((dsimp only; exact swap_all (by assumption) (by omega) (by omega) (by omega))), by first | omega | assumption | (simp only [List.length_append, List.length_cons, List.length_nil, List.length_replicate, put_len] at * <;> omega) | ((dsimp only; omega)) | ((dsimp only; exact swap_all (by assumption) (by omega) (by omega) (by omega))), by first | omega | assumption | (simp only [List.length_append, List.length_cons, List.length_nil, List.length_replicate, put_len] at * <;> omega) | ((dsimp only; omega)) | ((dsimp only; exact swap_all (by assumption) (by omega) (by omega) (by omega))), by first | omega | assumption | (simp only [List.length_append, List.length_cons, List.length_nil, List.length_replicate, put_len] at * <;> omega) | ((dsimp only; omega)) | ((dsimp only; exact swap_all (by assumption) (by omega) (by omega) (by omega))), by first | omega | assumption | (simp only [List.length_append, List.length_cons, List.length_nil, List.length_replicate, put_len] at * <;> omega) | ((dsimp only; omega)) | ((dsimp only; exact swap_all (by assumption) (by omega) (by omega) (by omega))), by first | omega | assumption | (simp only [List.length_append, List.length_cons, List.length_nil, List.length_replicate, put_len] at * <;> omega) | ((dsimp only; omega)) | ((dsimp only; exact swap_all (by assumption) (by omega) (by omega) (by omega)))⟩ (sub_of [] ⟨rfl, rfl, rfl, clo_ren hr_cmp rfl, rfl, trivial⟩ ⟨rfl, trivial⟩ rfl)
    · try simp only [Bool.and_eq_true, Bool.or_eq_true, Bool.not_eq_true', Bool.and_eq_false_iff, Bool.or_eq_false_iff, Bool.not_eq_false', decide_eq_true_eq, decide_eq_false_iff_not, beq_iff_eq, bne_iff_ne, beq_eq_false_iff_ne, bne_eq_false_iff_eq, Bool.true_and, ne_eq, Decidable.not_not, Int.not_lt, Int.not_le, Nat.not_lt, Nat.not_le, strB_nil, strB_nil', strB_nnil, strB_nnil'] at h4
      refine run_exit rfl ?_
      exact run_cont hk2 (x1.1, x1.2) ⟨by first | omega | assumption | (simp only [List.length_append, List.length_cons, List.length_nil, List.length_replicate, put_len] at * <;> omega) | ((dsimp only; omega)) | ((dsimp only; exact swap_all (by assumption) (by omega) (by omega) (by omega))), by first | omega | assumption | (simp only [List.length_append, List.length_cons, List.length_nil, List.length_replicate, put_len] at * <;> omega) | ((dsimp only; omega)) | ((dsimp only; exact swap_all (by assumption) (by omega) (by omega) (by omega))), by first | omega | assumption | (simp only [List.length_append, List.length_cons, List.length_nil, List.length_replicate, put_len] at * <;> omega) | ((dsimp only; omega)) | ((dsimp only; exact swap_all (by assumption) (by omega) (by omega) (by omega))), by first | omega | assumption | (simp only [List.length_append, List.length_cons, List.length_nil, List.length_replicate, put_len] at * <;> omega) | ((dsimp only; omega)) | ((dsimp only; exact swap_all (by assumption) (by omega) (by omega) (by omega)))⟩ (sub_of [] trivial ⟨rfl, trivial⟩ rfl)

/-! ### slices_stableCmpFunc_int -/
set_option maxRecDepth 100000 in
theorem c_slices_stableCmpFunc_int (data : List Int) (n_ : Int) (cmp : Int → Int → Int) (F_cmp : FuncId) (C_cmp : List V) (he_cmp : entB Try.prog F_cmp = true) (hr_cmp : C_cmp.all V.ro = true) (Q_cmp : Int → Prop) (hc_cmp : ∀ (a0 : Int) (a1 : Int), Q_cmp a0 → Q_cmp a1 → Con Try.prog F_cmp ([.int .i64 a0, .int .i64 a1] ++ C_cmp) [] (.int .i64 (cmp a0 a1)) []) (hp1 : n_ = data.length ∧ data.length ≤ 16) (hp2 : ∀ x ∈ data, Q_cmp x) : Con Try.prog 122 [.os 0 data.length, .int .i64 n_, .clo F_cmp C_cmp] [(0, some (.row 3 1 (data.map (V.int .i64))))] (.tup []) ([(0, some (.row 3 1 ((m_slices_stableCmpFunc_int data n_ cmp).map (V.int .i64))))]) := by
  refine con_intro (out := fun r : (List Int) => ((.tup [] : V), ([(0, some (.row 3 1 (r.map (V.int .i64))))] : List (Nat × Option O)))) (r := (m_slices_stableCmpFunc_int data n_ cmp)) Try.func122 rfl Try.ntmps122 rfl ?_
  refine run_factH (l := 0) rfl fun hl => ?_
  have l1 := hl; clear hl; simp only [List.length_map] at l1
  refine run_seq ?_
  refine run_region (q_assign .n (.c rfl) rfl <|
      Lex.nil) ?_
  refine run_seq ?_
  refine run_region (q_move .n (.t rfl) rfl <|
      q_assign .n (.c rfl) rfl <|
      q_assign .n (.t rfl) rfl <|
      Lex.nil) ?_
  refine run_seq ?_
  refine run_block ?_
  refine run_LOOP (m_slices_stableCmpFunc_int_b1 data n_ cmp) _ _ _ rfl (fun (x1 : Unit) => True) (fun x1 => True) (fun x1 => 0) (fun x1 => ⟨[(0, some (true, .os 0 data.length)), (1, some (true, .int .i64 n_)), (2, some (true, .clo F_cmp C_cmp)), (6, some (true, .int .i64 20)), (7, some (true, .int .i64 0)), (8, some (true, .int .i64 20))], [(0, some (.row 3 1 (data.map (V.int .i64))))]⟩) (fun x1 => ⟨[(0, some (true, .os 0 data.length)), (1, some (true, .int .i64 n_)), (2, some (true, .clo F_cmp C_cmp)), (6, some (true, .int .i64 20)), (7, some (true, .int .i64 0))], [(0, some (.row 3 1 (data.map (V.int .i64))))]⟩) trivial (by first | omega | assumption | (simp only [List.length_append, List.length_cons, List.length_nil, List.length_replicate, put_len] at * <;> omega) | (exact ins_len (by omega) (by omega)) | (exact (ins_len (by omega) (by omega)).symm)) (sub_of [] ⟨rfl, rfl, clo_ren hr_cmp rfl, rfl, rfl, rfl, trivial⟩ ⟨rfl, trivial⟩ rfl) ?_ ?_
  · intro x1 i5
    try dsimp only at *
    refine run_seq ?_
    refine run_region (q_move .n (.t rfl) rfl <|
        q_move .n (.t rfl) rfl <|
        q_move .n (.t rfl) rfl <|
        q_move .n (.t rfl) rfl <|
        q_callM (full := false) [(0, 0)] [] .n rfl .f en_140 (.cons (.t rfl) (.cons (.t rfl) (.cons (.t rfl) (.cons (.t rfl) .nil)))) (.cons (.b (.muts rfl)) (.cons (.b (.a (.same rfl))) (.cons (.b (.a (.same rfl))) (.cons (.clo (passBs_ro hr_cmp)) .nil)))) (c_slices_insertionSortCmpFunc_int data 0 n_ cmp F_cmp C_cmp he_cmp hr_cmp Q_cmp hc_cmp (by first | omega | assumption | (simp only [List.length_append, List.length_cons, List.length_nil, List.length_replicate, put_len] at * <;> omega) | (exact ins_len (by omega) (by omega)) | (exact (ins_len (by omega) (by omega)).symm)) (by first | omega | assumption | (simp only [List.length_append, List.length_cons, List.length_nil, List.length_replicate, put_len] at * <;> omega) | (exact ins_len (by omega) (by omega)) | (exact (ins_len (by omega) (by omega)).symm)) (by first | omega | assumption | (simp only [List.length_append, List.length_cons, List.length_nil, List.length_replicate, put_len] at * <;> omega) | (exact ins_len (by omega) (by omega)) | (exact (ins_len (by omega) (by omega)).symm))) ⟨rfl, trivial⟩ rfl rfl (fun h => Bool.noConfusion h) (fun h => Bool.noConfusion h) rfl <|
        Lex.nil) ?_
    refine run_block ?_
    refine run_LOOP (m_slices_stableCmpFunc_int_b2 data n_ cmp x1) _ _ _ rfl (fun (x2 : Unit) => True) (fun x2 => True) (fun x2 => 0) (fun x2 => ⟨[(0, some (true, .os 0 (m_slices_insertionSortCmpFunc_int data 0 n_ cmp).length)), (1, some (true, .int .i64 n_)), (2, some (true, .clo F_cmp C_cmp)), (6, some (true, .int .i64 20))], [(0, some (.row 3 1 ((m_slices_insertionSortCmpFunc_int data 0 n_ cmp).map (V.int .i64))))]⟩) (fun x2 => ⟨[], [(0, some (.row 3 1 ((m_slices_insertionSortCmpFunc_int data 0 n_ cmp).map (V.int .i64))))]⟩) trivial (by first | omega | assumption | (simp only [List.length_append, List.length_cons, List.length_nil, List.length_replicate, put_len] at * <;> omega) | (exact ins_len (by omega) (by omega)) | (exact (ins_len (by omega) (by omega)).symm)) (sub_of [] ⟨os_len rfl (by first | (simp only [put_len]; done) | (first | omega | assumption | (simp only [List.length_append, List.length_cons, List.length_nil, List.length_replicate, put_len] at * <;> omega) | (exact ins_len (by omega) (by omega)) | (exact (ins_len (by omega) (by omega)).symm))), rfl, clo_ren hr_cmp rfl, rfl, trivial⟩ ⟨rfl, trivial⟩ rfl) ?_ ?_
    · intro x2 i9
      try dsimp only at *
      exact run_end [] .nil rfl ⟨rfl, trivial⟩ rfl
    · intro rec2 k2 hk6 x2 i7
      try dsimp only at *
      refine run_seq ?_
      refine run_seq ?_
      refine run_region (q_move .n (.t rfl) rfl <|
          q_move .n (.t rfl) rfl <|
          q_int .n (.t rfl) (.t rfl) rfl rfl <|
          Lex.nil) ?_
      refine run_if (.t rfl) (fun h8 => ?_) (fun h8 => ?_)
      · try simp only [Bool.and_eq_true, Bool.or_eq_true, Bool.not_eq_true', Bool.and_eq_false_iff, Bool.or_eq_false_iff, Bool.not_eq_false', decide_eq_true_eq, decide_eq_false_iff_not, beq_iff_eq, bne_iff_ne, beq_eq_false_iff_ne, bne_eq_false_iff_eq, Bool.true_and, ne_eq, Decidable.not_not, Int.not_lt, Int.not_le, Nat.not_lt, Nat.not_le, strB_nil, strB_nil', strB_nnil, strB_nnil'] at h8
        exfalso; first | omega | assumption | (simp only [List.length_append, List.length_cons, List.length_nil, List.length_replicate, put_len] at * <;> omega) | (exact ins_len (by omega) (by omega)) | (exact (ins_len (by omega) (by omega)).symm)
      · try simp only [Bool.and_eq_true, Bool.or_eq_true, Bool.not_eq_true', Bool.and_eq_false_iff, Bool.or_eq_false_iff, Bool.not_eq_false', decide_eq_true_eq, decide_eq_false_iff_not, beq_iff_eq, bne_iff_ne, beq_eq_false_iff_ne, bne_eq_false_iff_eq, Bool.true_and, ne_eq, Decidable.not_not, Int.not_lt, Int.not_le, Nat.not_lt, Nat.not_le, strB_nil, strB_nil', strB_nnil, strB_nnil'] at h8
        refine run_exit rfl ?_
        exact run_cont hk6 () trivial (sub_of [] trivial ⟨rfl, trivial⟩ rfl)
  · intro rec1 k1 hk2 x1 i3
    try dsimp only at *
    refine run_seq ?_
    refine run_seq ?_
    refine run_region (q_move .n (.t rfl) rfl <|
        q_move .n (.t rfl) rfl <|
        q_int .n (.t rfl) (.t rfl) rfl rfl <|
        Lex.nil) ?_
    refine run_if (.t rfl) (fun h4 => ?_) (fun h4 => ?_)
    · try simp only [Bool.and_eq_true, Bool.or_eq_true, Bool.not_eq_true', Bool.and_eq_false_iff, Bool.or_eq_false_iff, Bool.not_eq_false', decide_eq_true_eq, decide_eq_false_iff_not, beq_iff_eq, bne_iff_ne, beq_eq_false_iff_ne, bne_eq_false_iff_eq, Bool.true_and, ne_eq, Decidable.not_not, Int.not_lt, Int.not_le, Nat.not_lt, Nat.not_le, strB_nil, strB_nil', strB_nnil, strB_nnil'] at h4
      exfalso; first | omega | assumption | (simp only [List.length_append, List.length_cons, List.length_nil, List.length_replicate, put_len] at * <;> omega) | (exact ins_len (by omega) (by omega)) | (exact (ins_len (by omega) (by omega)).symm)
    · try simp only [Bool.and_eq_true, Bool.or_eq_true, Bool.not_eq_true', Bool.and_eq_false_iff, Bool.or_eq_false_iff, Bool.not_eq_false', decide_eq_true_eq, decide_eq_false_iff_not, beq_iff_eq, bne_iff_ne, beq_eq_false_iff_ne, bne_eq_false_iff_eq, Bool.true_and, ne_eq, Decidable.not_not, Int.not_lt, Int.not_le, Nat.not_lt, Nat.not_le, strB_nil, strB_nil', strB_nnil, strB_nnil'] at h4
      refine run_exit rfl ?_
      exact run_cont hk2 () trivial (sub_of [] ⟨rfl, rfl, clo_ren hr_cmp rfl, rfl, rfl, trivial⟩ ⟨rfl, trivial⟩ rfl)

/-! ### slices_SortStableFunc_int -/
set_option maxRecDepth 100000 in
theorem c_slices_SortStableFunc_int (x_ : List Int) (cmp : Int → Int → Int) (F_cmp : FuncId) (C_cmp : List V) (he_cmp : entB Try.prog F_cmp = true) (hr_cmp : C_cmp.all V.ro = true) (Q_cmp : Int → Prop) (hc_cmp : ∀ (a0 : Int) (a1 : Int), Q_cmp a0 → Q_cmp a1 → Con Try.prog F_cmp ([.int .i64 a0, .int .i64 a1] ++ C_cmp) [] (.int .i64 (cmp a0 a1)) []) (hp1 : x_.length ≤ 16) (hp2 : ∀ x ∈ x_, Q_cmp x) : Con Try.prog 96 [.os 0 x_.length, .clo F_cmp C_cmp] [(0, some (.row 3 1 (x_.map (V.int .i64))))] (.tup []) ([(0, some (.row 3 1 ((m_slices_SortStableFunc_int x_ cmp).map (V.int .i64))))]) := by
  refine con_intro (out := fun r : (List Int) => ((.tup [] : V), ([(0, some (.row 3 1 (r.map (V.int .i64))))] : List (Nat × Option O)))) (r := (m_slices_SortStableFunc_int x_ cmp)) Try.func96 rfl Try.ntmps96 rfl ?_
  refine run_factH (l := 0) rfl fun hl => ?_
  have l1 := hl; clear hl; simp only [List.length_map] at l1
  refine run_region (q_move .n (.t rfl) rfl <|
      q_move .n (.t rfl) rfl <|
      q_len .n (.t rfl) rfl rfl ss_140 rfl <|
      q_move .n (.t rfl) rfl <|
      q_callM (full := false) [(0, 0)] [] .n rfl .f en_122 (.cons (.t rfl) (.cons (.t rfl) (.cons (.t rfl) .nil))) (.cons (.b (.muts rfl)) (.cons (.b (.a (.same rfl))) (.cons (.clo (passBs_ro hr_cmp)) .nil))) (c_slices_stableCmpFunc_int x_ (x_.length : Int) cmp F_cmp C_cmp he_cmp hr_cmp Q_cmp hc_cmp (by first | omega | assumption | (simp only [List.length_append, List.length_cons, List.length_nil, List.length_replicate, put_len] at * <;> omega)) (by first | omega | assumption | (simp only [List.length_append, List.length_cons, List.length_nil, List.length_replicate, put_len] at * <;> omega))) ⟨rfl, trivial⟩ rfl rfl (fun h => Bool.noConfusion h) (fun h => Bool.noConfusion h) rfl <|
      Lex.nil) ?_
  exact run_end [] .nil rfl ⟨rfl, trivial⟩ rfl

/-! ### cmp_isNaN_int64 -/
theorem c_cmp_isNaN_int64 (x_ : Int) : Con Try.prog 123 [.int .i64 x_] [] (.bool (m_cmp_isNaN_int64 x_)) ([]) := by
  refine con_intro (out := fun r : Bool => ((.bool r : V), ([] : List (Nat × Option O)))) (r := (m_cmp_isNaN_int64 x_)) Try.func123 rfl Try.ntmps123 rfl ?_
  refine run_seq ?_
  refine run_region (q_assign .n (.c rfl) rfl <|
      Lex.nil) ?_
  refine run_seq ?_
  refine run_region (q_move .n (.t rfl) rfl <|
      q_move .n (.t rfl) rfl <|
      q_int .n (.t rfl) (.t rfl) rfl rfl <|
      q_assign .n (.t rfl) rfl <|
      Lex.nil) ?_
  exact run_ret [] (.cons (.t rfl rfl) .nil) rfl trivial rfl


end Go.Proofs.Ytbeppnhplglocaa
