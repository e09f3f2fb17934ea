/-
  THE WALKS: each Go function computes its model. Conditions: as each theorem states them (hp1, hp2 ..).
-/
import Derived.Test.YtpkkmkbafdadoaaExactFirstStartPlain4
import Derived.Test.YtpkkmkbafdadoaaProg
set_option linter.unusedVariables false
set_option linter.unusedSimpArgs false
set_option linter.unusedSectionVars false
set_option linter.unnecessarySimpa false
namespace Go.Proofs.Ytpkkmkbafdadoaa
open Go Go.RowKit Go.Proofs Go.Proofs.Ytpkkmkbafdadoaa.E
theorem fo_99_0 : fldOff Try.prog 99 0 = some 0 := by kernel_rfl
theorem ic_9 : isCell Try.prog 9 = true := by kernel_rfl
theorem st_9 : isStr Try.prog 9 = true := by kernel_rfl
theorem ss_22 : (slEl Try.prog 22).isSome = true := by kernel_rfl
theorem sl_22 : slEl Try.prog 22 = some (99, 7) := by kernel_rfl
theorem ag_99 : aggSz Try.prog 99 = some 7 := by kernel_rfl
theorem en_59 : entB Try.prog 59 = true := by kernel_rfl
theorem fo_24_1 : fldOff Try.prog 24 1 = some 1 := by kernel_rfl
theorem ic_22 : isCell Try.prog 22 = true := by kernel_rfl
theorem en_29 : entB Try.prog 29 = true := by kernel_rfl
theorem fo_27_0 : fldOff Try.prog 27 0 = some 0 := by kernel_rfl
theorem ss_25 : (slEl Try.prog 25).isSome = true := by kernel_rfl
theorem sl_25 : slEl Try.prog 25 = some (27, 5) := by kernel_rfl
theorem ag_27 : aggSz Try.prog 27 = some 5 := by kernel_rfl
theorem en_8 : entB Try.prog 8 = true := by kernel_rfl
theorem en_87 : entB Try.prog 87 = true := by kernel_rfl
theorem en_88 : entB Try.prog 88 = true := by kernel_rfl
theorem en_44 : entB Try.prog 44 = true := by kernel_rfl
theorem fo_39_0 : fldOff Try.prog 39 0 = some 0 := by kernel_rfl
theorem en_61 : entB Try.prog 61 = true := by kernel_rfl
theorem fo_39_1 : fldOff Try.prog 39 1 = some 1 := by kernel_rfl
theorem ic_2 : isCell Try.prog 2 = true := by kernel_rfl
theorem en_62 : entB Try.prog 62 = true := by kernel_rfl
theorem fo_39_2 : fldOff Try.prog 39 2 = some 2 := by kernel_rfl
theorem en_63 : entB Try.prog 63 = true := by kernel_rfl
theorem fo_39_3 : fldOff Try.prog 39 3 = some 3 := by kernel_rfl
theorem fo_39_4 : fldOff Try.prog 39 4 = some 4 := by kernel_rfl
theorem fmo : Try.prog.follows .mixedOrders = true := by kernel_rfl
theorem fo_74_0 : fldOff Try.prog 74 0 = some 0 := by kernel_rfl
theorem fo_74_1 : fldOff Try.prog 74 1 = some 1 := by kernel_rfl
theorem fo_74_2 : fldOff Try.prog 74 2 = some 2 := by kernel_rfl
theorem fo_74_3 : fldOff Try.prog 74 3 = some 3 := by kernel_rfl
theorem fo_74_4 : fldOff Try.prog 74 4 = some 4 := by kernel_rfl
theorem fo_74_5 : fldOff Try.prog 74 5 = some 5 := by kernel_rfl
theorem fo_74_6 : fldOff Try.prog 74 6 = some 6 := by kernel_rfl
theorem fo_35_0 : fldOff Try.prog 35 0 = some 0 := by kernel_rfl
theorem fo_35_1 : fldOff Try.prog 35 1 = some 1 := by kernel_rfl
theorem ic_33 : isCell Try.prog 33 = true := by kernel_rfl
theorem ss_33 : (slEl Try.prog 33).isSome = true := by kernel_rfl
theorem sl_33 : slEl Try.prog 33 = some (74, 7) := by kernel_rfl
theorem en_85 : entB Try.prog 85 = true := by kernel_rfl
theorem en_86 : entB Try.prog 86 = true := by kernel_rfl
theorem en_60 : entB Try.prog 60 = true := by kernel_rfl
theorem ss_37 : (slEl Try.prog 37).isSome = true := by kernel_rfl
theorem sl_37 : slEl Try.prog 37 = some (39, 5) := by kernel_rfl
theorem en_31 : entB Try.prog 31 = true := by kernel_rfl
theorem en_65 : entB Try.prog 65 = true := by kernel_rfl
theorem en_66 : entB Try.prog 66 = true := by kernel_rfl
theorem en_64 : entB Try.prog 64 = true := by kernel_rfl
theorem en_30 : entB Try.prog 30 = true := by kernel_rfl
theorem en_32 : entB Try.prog 32 = true := by kernel_rfl
theorem ts_2 : tySz Try.prog 2 = some 1 := by kernel_rfl
theorem zv_74 : zeroV Try.prog 74 = some (.st [.str ([] : List UInt8), .int .i64 0, .int .i64 0, .int .i64 0, .int .i64 0, .int .i64 0, .int .i64 0]) := by kernel_rfl
theorem ts_9 : tySz Try.prog 9 = some 1 := by kernel_rfl
theorem fo_99_1 : fldOff Try.prog 99 1 = some 1 := by kernel_rfl
theorem fo_99_2 : fldOff Try.prog 99 2 = some 2 := by kernel_rfl
theorem fo_99_3 : fldOff Try.prog 99 3 = some 3 := by kernel_rfl
theorem fo_99_4 : fldOff Try.prog 99 4 = some 4 := by kernel_rfl
theorem fo_99_5 : fldOff Try.prog 99 5 = some 5 := by kernel_rfl
theorem fo_99_6 : fldOff Try.prog 99 6 = some 6 := by kernel_rfl
theorem ag_74 : aggSz Try.prog 74 = some 7 := by kernel_rfl
theorem ts_74 : tySz Try.prog 74 = some 7 := by kernel_rfl
theorem si_33 : slInfo Try.prog 33 = some (74, 7, 64) := by kernel_rfl
theorem en_67 : entB Try.prog 67 = true := by kernel_rfl
theorem zv_35 : zeroV Try.prog 35 = some (.st [.int .i64 0, .nls]) := by kernel_rfl
theorem fo_24_0 : fldOff Try.prog 24 0 = some 0 := by kernel_rfl
theorem en_33 : entB Try.prog 33 = true := by kernel_rfl
theorem ts_33 : tySz Try.prog 33 = some 1 := by kernel_rfl
theorem ag_35 : aggSz Try.prog 35 = some 2 := by kernel_rfl
theorem ts_35 : tySz Try.prog 35 = some 2 := by kernel_rfl
theorem zv_39 : zeroV Try.prog 39 = some (.st [.str ([] : List UInt8), .int .i64 0, .int .i64 0, .int .i64 0, .int .i64 0]) := by kernel_rfl
theorem fo_27_1 : fldOff Try.prog 27 1 = some 1 := by kernel_rfl
theorem fo_27_2 : fldOff Try.prog 27 2 = some 2 := by kernel_rfl
theorem fo_27_3 : fldOff Try.prog 27 3 = some 3 := by kernel_rfl
theorem fo_27_4 : fldOff Try.prog 27 4 = some 4 := by kernel_rfl
theorem ag_39 : aggSz Try.prog 39 = some 5 := by kernel_rfl
theorem ts_39 : tySz Try.prog 39 = some 5 := by kernel_rfl
theorem si_37 : slInfo Try.prog 37 = some (39, 5, 48) := by kernel_rfl
theorem en_12 : entB Try.prog 12 = true := by kernel_rfl
theorem en_91 : entB Try.prog 91 = true := by kernel_rfl
theorem en_49 : entB Try.prog 49 = true := by kernel_rfl
theorem en_69 : entB Try.prog 69 = true := by kernel_rfl
theorem en_70 : entB Try.prog 70 = true := by kernel_rfl
theorem en_101 : entB Try.prog 101 = true := by kernel_rfl
theorem en_102 : entB Try.prog 102 = true := by kernel_rfl
theorem en_89 : entB Try.prog 89 = true := by kernel_rfl
theorem en_90 : entB Try.prog 90 = true := by kernel_rfl
theorem en_68 : entB Try.prog 68 = true := by kernel_rfl
theorem en_35 : entB Try.prog 35 = true := by kernel_rfl
theorem en_36 : entB Try.prog 36 = true := by kernel_rfl
theorem en_92 : entB Try.prog 92 = true := by kernel_rfl
theorem en_93 : entB Try.prog 93 = true := by kernel_rfl
theorem en_94 : entB Try.prog 94 = true := by kernel_rfl
theorem en_73 : entB Try.prog 73 = true := by kernel_rfl
theorem en_72 : entB Try.prog 72 = true := by kernel_rfl
theorem en_71 : entB Try.prog 71 = true := by kernel_rfl
theorem en_34 : entB Try.prog 34 = true := by kernel_rfl
theorem en_37 : entB Try.prog 37 = true := by kernel_rfl
theorem en_38 : entB Try.prog 38 = true := by kernel_rfl
theorem en_74 : entB Try.prog 74 = true := by kernel_rfl
theorem en_39 : entB Try.prog 39 = true := by kernel_rfl
theorem en_40 : entB Try.prog 40 = true := by kernel_rfl
theorem ag_24 : aggSz Try.prog 24 = some 2 := by kernel_rfl
theorem en_6 : entB Try.prog 6 = true := by kernel_rfl
theorem en_7 : entB Try.prog 7 = true := by kernel_rfl
theorem en_10 : entB Try.prog 10 = true := by kernel_rfl
theorem en_11 : entB Try.prog 11 = true := by kernel_rfl
theorem en_9 : entB Try.prog 9 = true := by kernel_rfl
theorem en_13 : entB Try.prog 13 = true := by kernel_rfl
theorem en_14 : entB Try.prog 14 = true := by kernel_rfl
theorem en_15 : entB Try.prog 15 = true := by kernel_rfl

/-! ### laws_szAirway -/
theorem c_laws_szAirway (a : gAirway) (left : Int) : Con Try.prog 59 [.st [.str a.Id, .int .i64 a.From, .int .i64 a.To, .int .i64 a.Length, .int .i64 a.Section, .int .i64 a.Friction, .int .i64 a.Shock], .int .i64 left] [] (.int .i64 (m_laws_szAirway a left)) ([]) := by
  refine con_intro (out := fun r : Int => ((.int .i64 r : V), ([] : List (Nat × Option O)))) (r := (m_laws_szAirway a left)) Try.func59 rfl Try.ntmps59 rfl ?_
  refine run_seq ?_
  refine run_region (q_box (l := 200) .n rfl (.t rfl) rfl rfl rfl rfl <|
      q_assign .n (.c rfl) rfl <|
      Lex.nil) ?_
  refine run_seq ?_
  refine run_region (q_move .n (.t rfl) rfl <|
      q_fld_ow .n (.t rfl) fo_99_0 rfl <|
      q_ld1_ow .n (.t rfl) rfl (.inr rfl) (fun _ => rfl) rfl ic_9 rfl <|
      q_len .n (.t rfl) rfl rfl st_9 rfl <|
      q_int .n (.t rfl) (.t rfl) rfl rfl <|
      q_assign .n (.t rfl) rfl <|
      Lex.nil) ?_
  refine run_seq ?_
  refine run_seq ?_
  refine run_region (q_move .n (.t rfl) rfl <|
      q_int .n (.t rfl) (.c rfl) rfl rfl <|
      Lex.nil) ?_
  refine run_cond (.t rfl) rfl (fun h1 => ?_) (fun h1 => ?_)
  · try simp only [Bool.and_eq_true, Bool.or_eq_true, Bool.not_eq_true', Bool.and_eq_false_iff, Bool.or_eq_false_iff, Bool.not_eq_false', decide_eq_true_eq, decide_eq_false_iff_not, beq_iff_eq, bne_iff_ne, beq_eq_false_iff_ne, bne_eq_false_iff_eq, Bool.true_and, ne_eq, Decidable.not_not, Int.not_lt, Int.not_le, Nat.not_lt, Nat.not_le, strB_nil, strB_nil', strB_nnil, strB_nnil'] at h1
    refine run_seq ?_
    refine run_region (q_assign .n (.c rfl) rfl <|
        Lex.nil) ?_
    exact run_ret [] (.cons (.t rfl rfl) .nil) rfl trivial rfl
  · try simp only [Bool.and_eq_true, Bool.or_eq_true, Bool.not_eq_true', Bool.and_eq_false_iff, Bool.or_eq_false_iff, Bool.not_eq_false', decide_eq_true_eq, decide_eq_false_iff_not, beq_iff_eq, bne_iff_ne, beq_eq_false_iff_ne, bne_eq_false_iff_eq, Bool.true_and, ne_eq, Decidable.not_not, Int.not_lt, Int.not_le, Nat.not_lt, Nat.not_le, strB_nil, strB_nil', strB_nnil, strB_nnil'] at h1
    refine run_skip ?_
    refine run_seq ?_
    refine run_region (q_move .n (.t rfl) rfl <|
        q_assign .n (.t rfl) rfl <|
        Lex.nil) ?_
    exact run_ret [] (.cons (.t rfl rfl) .nil) rfl trivial rfl

/-! ### laws_szAirwayS -/
theorem c_laws_szAirwayS (a : List gAirway) (left : Int) : Con Try.prog 29 [.sl 7 (a.map gAirway.v), .int .i64 left] [] (.int .i64 (m_laws_szAirwayS a left)) ([]) := by
  refine con_intro (out := fun r : Int => ((.int .i64 r : V), ([] : List (Nat × Option O)))) (r := (m_laws_szAirwayS a left)) Try.func29 rfl Try.ntmps29 rfl ?_
  refine run_fact (t := 0) rfl fun hl => ?_
  have l1 := hl; clear hl; simp only [List.length_map] at l1
  refine run_seq ?_
  refine run_region (q_assign .n (.c rfl) rfl <|
      Lex.nil) ?_
  refine run_seq ?_
  refine run_region (q_move .n (.t rfl) rfl <|
      q_move .n (.t rfl) rfl <|
      q_len .n (.t rfl) rfl len_map ss_22 rfl <|
      q_int .n (.t rfl) (.t rfl) rfl rfl <|
      q_assign .n (.t rfl) rfl <|
      Lex.nil) ?_
  refine run_seq ?_
  refine run_seq ?_
  refine run_region (q_move .n (.t rfl) rfl <|
      q_int .n (.t rfl) (.c rfl) rfl rfl <|
      Lex.nil) ?_
  refine run_cond (.t rfl) rfl (fun h2 => ?_) (fun h2 => ?_)
  · try simp only [Bool.and_eq_true, Bool.or_eq_true, Bool.not_eq_true', Bool.and_eq_false_iff, Bool.or_eq_false_iff, Bool.not_eq_false', decide_eq_true_eq, decide_eq_false_iff_not, beq_iff_eq, bne_iff_ne, beq_eq_false_iff_ne, bne_eq_false_iff_eq, Bool.true_and, ne_eq, Decidable.not_not, Int.not_lt, Int.not_le, Nat.not_lt, Nat.not_le, strB_nil, strB_nil', strB_nnil, strB_nnil'] at h2
    refine run_seq ?_
    refine run_region (q_assign .n (.c rfl) rfl <|
        Lex.nil) ?_
    exact run_ret [] (.cons (.t rfl rfl) .nil) rfl trivial rfl
  · try simp only [Bool.and_eq_true, Bool.or_eq_true, Bool.not_eq_true', Bool.and_eq_false_iff, Bool.or_eq_false_iff, Bool.not_eq_false', decide_eq_true_eq, decide_eq_false_iff_not, beq_iff_eq, bne_iff_ne, beq_eq_false_iff_ne, bne_eq_false_iff_eq, Bool.true_and, ne_eq, Decidable.not_not, Int.not_lt, Int.not_le, Nat.not_lt, Nat.not_le, strB_nil, strB_nil', strB_nnil, strB_nnil'] at h2
    refine run_skip ?_
    refine run_seq ?_
    refine run_seq ?_
    refine run_region (q_assign .n (.c rfl) rfl <|
        Lex.nil) ?_
    refine run_block ?_
    refine run_LOOP (m_laws_szAirwayS_b1 a left) _ _ _ rfl (fun (x1 : Int × Int) => 0 ≤ x1.2 ∧ x1.2 ≤ (a.length : Int)) (fun x1 => 0 ≤ x1.2 ∧ x1.2 ≤ (a.length : Int) ∧ (a.length : Int) ≤ x1.2) (fun x1 => ((a.length : Int) - x1.2 : Int).toNat) (fun x1 => ⟨[(0, some (true, .sl 7 (a.map gAirway.v))), (1, some (true, .int .i64 x1.1)), (5, some (true, .int .i64 x1.2))], []⟩) (fun x1 => ⟨[(1, some (true, .int .i64 x1.1))], []⟩) ⟨by first | omega | assumption | (simp only [List.length_append, List.length_cons, List.length_nil, List.length_replicate, put_len] at * <;> omega), by first | omega | assumption | (simp only [List.length_append, List.length_cons, List.length_nil, List.length_replicate, put_len] at * <;> omega)⟩ (by first | omega | assumption | (simp only [List.length_append, List.length_cons, List.length_nil, List.length_replicate, put_len] at * <;> omega)) (sub_of [] ⟨rfl, rfl, rfl, trivial⟩ trivial rfl) ?_ ?_
    · intro x1 i7
      obtain ⟨e8, e9, e10⟩ := i7
      try dsimp only at *
      refine run_seq ?_
      refine run_region (q_move .n (.t rfl) rfl <|
          q_assign .n (.t rfl) rfl <|
          Lex.nil) ?_
      exact run_ret [] (.cons (.t rfl rfl) .nil) rfl trivial rfl
    · intro rec1 k1 hk3 x1 i4
      obtain ⟨e11, e12⟩ := i4
      try dsimp only at *
      refine run_seq ?_
      refine run_seq ?_
      refine run_region (q_move .n (.t rfl) rfl <|
          q_move .n (.t rfl) rfl <|
          q_len .n (.t rfl) rfl len_map ss_22 rfl <|
          q_int .n (.t rfl) (.t rfl) rfl rfl <|
          Lex.nil) ?_
      refine run_cond (.t rfl) rfl (fun h5 => ?_) (fun h5 => ?_)
      · try simp only [Bool.and_eq_true, Bool.or_eq_true, Bool.not_eq_true', Bool.and_eq_false_iff, Bool.or_eq_false_iff, Bool.not_eq_false', decide_eq_true_eq, decide_eq_false_iff_not, beq_iff_eq, bne_iff_ne, beq_eq_false_iff_ne, bne_eq_false_iff_eq, Bool.true_and, ne_eq, Decidable.not_not, Int.not_lt, Int.not_le, Nat.not_lt, Nat.not_le, strB_nil, strB_nil', strB_nnil, strB_nnil'] at h5
        refine run_skip ?_
        refine run_seq ?_
        refine run_block ?_
        refine run_seq ?_
        refine run_region (q_move .n (.t rfl) rfl <|
            q_move .n (.t rfl) rfl <|
            q_idx_rm .n (.t rfl) (.t rfl) sl_22 (fun _ => by first | omega | assumption | (simp only [List.length_append, List.length_cons, List.length_nil, List.length_replicate, put_len] at * <;> omega)) rfl <|
            q_ldN_ro .n (.t rfl) ag_99 rfl rfl rfl <|
            q_move .n (.t rfl) rfl <|
            q_call0 (full := false) .n .f en_59 (.cons (.t rfl) (.cons (.t rfl) .nil)) (.cons (.sts rfl) (.cons (.b (.a (.same rfl))) .nil)) (fun hg => c_laws_szAirway (at' a x1.2) x1.1) rfl (fun h => Bool.noConfusion h) rfl <|
            q_assign .n (.t rfl) rfl <|
            Lex.nil) ?_
        refine run_seq ?_
        refine run_region (q_move .n (.t rfl) rfl <|
            q_int .n (.t rfl) (.c rfl) rfl rfl <|
            Lex.nil) ?_
        refine run_cond (.t rfl) rfl (fun h6 => ?_) (fun h6 => ?_)
        · try simp only [Bool.and_eq_true, Bool.or_eq_true, Bool.not_eq_true', Bool.and_eq_false_iff, Bool.or_eq_false_iff, Bool.not_eq_false', decide_eq_true_eq, decide_eq_false_iff_not, beq_iff_eq, bne_iff_ne, beq_eq_false_iff_ne, bne_eq_false_iff_eq, Bool.true_and, ne_eq, Decidable.not_not, Int.not_lt, Int.not_le, Nat.not_lt, Nat.not_le, strB_nil, strB_nil', strB_nnil, strB_nnil'] at h6
          try have hf0h6 := szAirway_impA (by assumption) (by omega) (by omega) h6
          try have hf1h6 := szAirway_impA (by assumption) (by omega) (by omega) h6.1
          try have hf2h6 := szAirway_impA (by assumption) (by omega) (by omega) h6.2
          try have hf3h6 := szAirway_impA (by assumption) (by omega) (by omega) h6.1.1
          try have hf4h6 := szAirway_impA (by assumption) (by omega) (by omega) h6.1.2
          try have hf5h6 := szAirway_impA (by assumption) (by omega) (by omega) h6.2.1
          try have hf6h6 := szAirway_impA (by assumption) (by omega) (by omega) h6.2.2
          try have hf7h6 := szAirway_impB (by assumption) (by omega) (by omega) h6
          try have hf8h6 := szAirway_impB (by assumption) (by omega) (by omega) h6.1
          try have hf9h6 := szAirway_impB (by assumption) (by omega) (by omega) h6.2
          try have hf10h6 := szAirway_impB (by assumption) (by omega) (by omega) h6.1.1
          try have hf11h6 := szAirway_impB (by assumption) (by omega) (by omega) h6.1.2
          try have hf12h6 := szAirway_impB (by assumption) (by omega) (by omega) h6.2.1
          try have hf13h6 := szAirway_impB (by assumption) (by omega) (by omega) h6.2.2
          refine run_seq ?_
          refine run_region (q_assign .n (.c rfl) rfl <|
              Lex.nil) ?_
          exact run_ret [] (.cons (.t rfl rfl) .nil) rfl trivial rfl
        · try simp only [Bool.and_eq_true, Bool.or_eq_true, Bool.not_eq_true', Bool.and_eq_false_iff, Bool.or_eq_false_iff, Bool.not_eq_false', decide_eq_true_eq, decide_eq_false_iff_not, beq_iff_eq, bne_iff_ne, beq_eq_false_iff_ne, bne_eq_false_iff_eq, Bool.true_and, ne_eq, Decidable.not_not, Int.not_lt, Int.not_le, Nat.not_lt, Nat.not_le, strB_nil, strB_nil', strB_nnil, strB_nnil'] at h6
          try have hf0h6 := szAirway_impA (by assumption) (by omega) (by omega) h6
          try have hf1h6 := szAirway_impA (by assumption) (by omega) (by omega) h6.1
          try have hf2h6 := szAirway_impA (by assumption) (by omega) (by omega) h6.2
          try have hf3h6 := szAirway_impA (by assumption) (by omega) (by omega) h6.1.1
          try have hf4h6 := szAirway_impA (by assumption) (by omega) (by omega) h6.1.2
          try have hf5h6 := szAirway_impA (by assumption) (by omega) (by omega) h6.2.1
          try have hf6h6 := szAirway_impA (by assumption) (by omega) (by omega) h6.2.2
          try have hf7h6 := szAirway_impB (by assumption) (by omega) (by omega) h6
          try have hf8h6 := szAirway_impB (by assumption) (by omega) (by omega) h6.1
          try have hf9h6 := szAirway_impB (by assumption) (by omega) (by omega) h6.2
          try have hf10h6 := szAirway_impB (by assumption) (by omega) (by omega) h6.1.1
          try have hf11h6 := szAirway_impB (by assumption) (by omega) (by omega) h6.1.2
          try have hf12h6 := szAirway_impB (by assumption) (by omega) (by omega) h6.2.1
          try have hf13h6 := szAirway_impB (by assumption) (by omega) (by omega) h6.2.2
          refine run_skip ?_
          refine run_endB ?_
          refine run_region (q_move .n (.t rfl) rfl <|
              q_add .n (.t rfl) (.c rfl) (fun _ => by first | omega | assumption | (simp only [List.length_append, List.length_cons, List.length_nil, List.length_replicate, put_len] at * <;> omega)) rfl <|
              q_assign .n (.t rfl) rfl <|
              Lex.nil) ?_
          exact run_again (m_laws_szAirway (at' a x1.2) x1.1, x1.2 + 1) ⟨by first | omega | assumption | (simp only [List.length_append, List.length_cons, List.length_nil, List.length_replicate, put_len] at * <;> omega), by first | omega | assumption | (simp only [List.length_append, List.length_cons, List.length_nil, List.length_replicate, put_len] at * <;> omega)⟩ (by first | omega | assumption | (simp only [List.length_append, List.length_cons, List.length_nil, List.length_replicate, put_len] at * <;> omega)) (sub_of [] ⟨rfl, rfl, rfl, trivial⟩ trivial rfl)
      · try simp only [Bool.and_eq_true, Bool.or_eq_true, Bool.not_eq_true', Bool.and_eq_false_iff, Bool.or_eq_false_iff, Bool.not_eq_false', decide_eq_true_eq, decide_eq_false_iff_not, beq_iff_eq, bne_iff_ne, beq_eq_false_iff_ne, bne_eq_false_iff_eq, Bool.true_and, ne_eq, Decidable.not_not, Int.not_lt, Int.not_le, Nat.not_lt, Nat.not_le, strB_nil, strB_nil', strB_nnil, strB_nnil'] at h5
        refine run_exit rfl ?_
        exact run_cont hk3 (x1.1, x1.2) ⟨by first | omega | assumption | (simp only [List.length_append, List.length_cons, List.length_nil, List.length_replicate, put_len] at * <;> omega), by first | omega | assumption | (simp only [List.length_append, List.length_cons, List.length_nil, List.length_replicate, put_len] at * <;> omega), by first | omega | assumption | (simp only [List.length_append, List.length_cons, List.length_nil, List.length_replicate, put_len] at * <;> omega)⟩ (sub_of [] ⟨rfl, trivial⟩ trivial rfl)

/-! ### laws_szMine -/
theorem c_laws_szMine (a : gMine) (left : Int) : Con Try.prog 6 [.st [.int .i64 a.Junctions, .sl 7 (a.Airways.map gAirway.v)], .int .i64 left] [] (.int .i64 (m_laws_szMine a left)) ([]) := by
  refine con_intro (out := fun r : Int => ((.int .i64 r : V), ([] : List (Nat × Option O)))) (r := (m_laws_szMine a left)) Try.func6 rfl Try.ntmps6 rfl ?_
  refine run_factS (t := 0) 1 rfl rfl fun hl => ?_
  have l1 := hl; clear hl; simp only [List.length_map] at l1
  refine run_seq ?_
  refine run_region (q_box (l := 200) .n rfl (.t rfl) rfl rfl rfl rfl <|
      q_assign .n (.c rfl) rfl <|
      Lex.nil) ?_
  refine run_seq ?_
  refine run_region (q_fld_ow .n (.t rfl) fo_24_1 rfl <|
      q_ld1_ow .n (.t rfl) rfl (.inr rfl) (fun _ => rfl) rfl ic_22 rfl <|
      q_move .n (.t rfl) rfl <|
      q_call0 (full := false) .n .f en_29 (.cons (.t rfl) (.cons (.t rfl) .nil)) (.cons (.b (.a (.same rfl))) (.cons (.b (.a (.same rfl))) .nil)) (fun hg => c_laws_szAirwayS a.Airways left) rfl (fun h => Bool.noConfusion h) rfl <|
      q_assign .n (.t rfl) rfl <|
      Lex.nil) ?_
  refine run_seq ?_
  refine run_seq ?_
  refine run_region (q_move .n (.t rfl) rfl <|
      q_int .n (.t rfl) (.c rfl) rfl rfl <|
      Lex.nil) ?_
  refine run_cond (.t rfl) rfl (fun h2 => ?_) (fun h2 => ?_)
  · try simp only [Bool.and_eq_true, Bool.or_eq_true, Bool.not_eq_true', Bool.and_eq_false_iff, Bool.or_eq_false_iff, Bool.not_eq_false', decide_eq_true_eq, decide_eq_false_iff_not, beq_iff_eq, bne_iff_ne, beq_eq_false_iff_ne, bne_eq_false_iff_eq, Bool.true_and, ne_eq, Decidable.not_not, Int.not_lt, Int.not_le, Nat.not_lt, Nat.not_le, strB_nil, strB_nil', strB_nnil, strB_nnil'] at h2
    try have hf0h2 := szAirwayS_impA (by assumption) (by omega) (by omega) h2
    try have hf1h2 := szAirwayS_impA (by assumption) (by omega) (by omega) h2.1
    try have hf2h2 := szAirwayS_impA (by assumption) (by omega) (by omega) h2.2
    try have hf3h2 := szAirwayS_impA (by assumption) (by omega) (by omega) h2.1.1
    try have hf4h2 := szAirwayS_impA (by assumption) (by omega) (by omega) h2.1.2
    try have hf5h2 := szAirwayS_impA (by assumption) (by omega) (by omega) h2.2.1
    try have hf6h2 := szAirwayS_impA (by assumption) (by omega) (by omega) h2.2.2
    try have hf7h2 := szAirwayS_impB (by assumption) (by omega) (by omega) h2
    try have hf8h2 := szAirwayS_impB (by assumption) (by omega) (by omega) h2.1
    try have hf9h2 := szAirwayS_impB (by assumption) (by omega) (by omega) h2.2
    try have hf10h2 := szAirwayS_impB (by assumption) (by omega) (by omega) h2.1.1
    try have hf11h2 := szAirwayS_impB (by assumption) (by omega) (by omega) h2.1.2
    try have hf12h2 := szAirwayS_impB (by assumption) (by omega) (by omega) h2.2.1
    try have hf13h2 := szAirwayS_impB (by assumption) (by omega) (by omega) h2.2.2
    refine run_seq ?_
    refine run_region (q_assign .n (.c rfl) rfl <|
        Lex.nil) ?_
    exact run_ret [] (.cons (.t rfl rfl) .nil) rfl trivial rfl
  · try simp only [Bool.and_eq_true, Bool.or_eq_true, Bool.not_eq_true', Bool.and_eq_false_iff, Bool.or_eq_false_iff, Bool.not_eq_false', decide_eq_true_eq, decide_eq_false_iff_not, beq_iff_eq, bne_iff_ne, beq_eq_false_iff_ne, bne_eq_false_iff_eq, Bool.true_and, ne_eq, Decidable.not_not, Int.not_lt, Int.not_le, Nat.not_lt, Nat.not_le, strB_nil, strB_nil', strB_nnil, strB_nnil'] at h2
    try have hf0h2 := szAirwayS_impA (by assumption) (by omega) (by omega) h2
    try have hf1h2 := szAirwayS_impA (by assumption) (by omega) (by omega) h2.1
    try have hf2h2 := szAirwayS_impA (by assumption) (by omega) (by omega) h2.2
    try have hf3h2 := szAirwayS_impA (by assumption) (by omega) (by omega) h2.1.1
    try have hf4h2 := szAirwayS_impA (by assumption) (by omega) (by omega) h2.1.2
    try have hf5h2 := szAirwayS_impA (by assumption) (by omega) (by omega) h2.2.1
    try have hf6h2 := szAirwayS_impA (by assumption) (by omega) (by omega) h2.2.2
    try have hf7h2 := szAirwayS_impB (by assumption) (by omega) (by omega) h2
    try have hf8h2 := szAirwayS_impB (by assumption) (by omega) (by omega) h2.1
    try have hf9h2 := szAirwayS_impB (by assumption) (by omega) (by omega) h2.2
    try have hf10h2 := szAirwayS_impB (by assumption) (by omega) (by omega) h2.1.1
    try have hf11h2 := szAirwayS_impB (by assumption) (by omega) (by omega) h2.1.2
    try have hf12h2 := szAirwayS_impB (by assumption) (by omega) (by omega) h2.2.1
    try have hf13h2 := szAirwayS_impB (by assumption) (by omega) (by omega) h2.2.2
    refine run_skip ?_
    refine run_seq ?_
    refine run_region (q_move .n (.t rfl) rfl <|
        q_assign .n (.t rfl) rfl <|
        Lex.nil) ?_
    exact run_ret [] (.cons (.t rfl rfl) .nil) rfl trivial rfl

/-! ### laws_szPermit -/
theorem c_laws_szPermit (a : gPermit) (left : Int) : Con Try.prog 8 [.st [.str a.Id, .int .i64 a.Kind, .int .i64 a.Airway, .int .i64 a.From, .int .i64 a.Until], .int .i64 left] [] (.int .i64 (m_laws_szPermit a left)) ([]) := by
  refine con_intro (out := fun r : Int => ((.int .i64 r : V), ([] : List (Nat × Option O)))) (r := (m_laws_szPermit a left)) Try.func8 rfl Try.ntmps8 rfl ?_
  refine run_seq ?_
  refine run_region (q_box (l := 200) .n rfl (.t rfl) rfl rfl rfl rfl <|
      q_assign .n (.c rfl) rfl <|
      Lex.nil) ?_
  refine run_seq ?_
  refine run_region (q_move .n (.t rfl) rfl <|
      q_fld_ow .n (.t rfl) fo_27_0 rfl <|
      q_ld1_ow .n (.t rfl) rfl (.inr rfl) (fun _ => rfl) rfl ic_9 rfl <|
      q_len .n (.t rfl) rfl rfl st_9 rfl <|
      q_int .n (.t rfl) (.t rfl) rfl rfl <|
      q_assign .n (.t rfl) rfl <|
      Lex.nil) ?_
  refine run_seq ?_
  refine run_seq ?_
  refine run_region (q_move .n (.t rfl) rfl <|
      q_int .n (.t rfl) (.c rfl) rfl rfl <|
      Lex.nil) ?_
  refine run_cond (.t rfl) rfl (fun h1 => ?_) (fun h1 => ?_)
  · try simp only [Bool.and_eq_true, Bool.or_eq_true, Bool.not_eq_true', Bool.and_eq_false_iff, Bool.or_eq_false_iff, Bool.not_eq_false', decide_eq_true_eq, decide_eq_false_iff_not, beq_iff_eq, bne_iff_ne, beq_eq_false_iff_ne, bne_eq_false_iff_eq, Bool.true_and, ne_eq, Decidable.not_not, Int.not_lt, Int.not_le, Nat.not_lt, Nat.not_le, strB_nil, strB_nil', strB_nnil, strB_nnil'] at h1
    refine run_seq ?_
    refine run_region (q_assign .n (.c rfl) rfl <|
        Lex.nil) ?_
    exact run_ret [] (.cons (.t rfl rfl) .nil) rfl trivial rfl
  · try simp only [Bool.and_eq_true, Bool.or_eq_true, Bool.not_eq_true', Bool.and_eq_false_iff, Bool.or_eq_false_iff, Bool.not_eq_false', decide_eq_true_eq, decide_eq_false_iff_not, beq_iff_eq, bne_iff_ne, beq_eq_false_iff_ne, bne_eq_false_iff_eq, Bool.true_and, ne_eq, Decidable.not_not, Int.not_lt, Int.not_le, Nat.not_lt, Nat.not_le, strB_nil, strB_nil', strB_nnil, strB_nnil'] at h1
    refine run_skip ?_
    refine run_seq ?_
    refine run_region (q_move .n (.t rfl) rfl <|
        q_assign .n (.t rfl) rfl <|
        Lex.nil) ?_
    exact run_ret [] (.cons (.t rfl rfl) .nil) rfl trivial rfl

/-! ### laws_szPermitS -/
theorem c_laws_szPermitS (a : List gPermit) (left : Int) : Con Try.prog 7 [.sl 5 (a.map gPermit.v), .int .i64 left] [] (.int .i64 (m_laws_szPermitS a left)) ([]) := by
  refine con_intro (out := fun r : Int => ((.int .i64 r : V), ([] : List (Nat × Option O)))) (r := (m_laws_szPermitS a left)) Try.func7 rfl Try.ntmps7 rfl ?_
  refine run_fact (t := 0) rfl fun hl => ?_
  have l1 := hl; clear hl; simp only [List.length_map] at l1
  refine run_seq ?_
  refine run_region (q_assign .n (.c rfl) rfl <|
      Lex.nil) ?_
  refine run_seq ?_
  refine run_region (q_move .n (.t rfl) rfl <|
      q_move .n (.t rfl) rfl <|
      q_len .n (.t rfl) rfl len_map ss_25 rfl <|
      q_int .n (.t rfl) (.t rfl) rfl rfl <|
      q_assign .n (.t rfl) rfl <|
      Lex.nil) ?_
  refine run_seq ?_
  refine run_seq ?_
  refine run_region (q_move .n (.t rfl) rfl <|
      q_int .n (.t rfl) (.c rfl) rfl rfl <|
      Lex.nil) ?_
  refine run_cond (.t rfl) rfl (fun h2 => ?_) (fun h2 => ?_)
  · try simp only [Bool.and_eq_true, Bool.or_eq_true, Bool.not_eq_true', Bool.and_eq_false_iff, Bool.or_eq_false_iff, Bool.not_eq_false', decide_eq_true_eq, decide_eq_false_iff_not, beq_iff_eq, bne_iff_ne, beq_eq_false_iff_ne, bne_eq_false_iff_eq, Bool.true_and, ne_eq, Decidable.not_not, Int.not_lt, Int.not_le, Nat.not_lt, Nat.not_le, strB_nil, strB_nil', strB_nnil, strB_nnil'] at h2
    refine run_seq ?_
    refine run_region (q_assign .n (.c rfl) rfl <|
        Lex.nil) ?_
    exact run_ret [] (.cons (.t rfl rfl) .nil) rfl trivial rfl
  · try simp only [Bool.and_eq_true, Bool.or_eq_true, Bool.not_eq_true', Bool.and_eq_false_iff, Bool.or_eq_false_iff, Bool.not_eq_false', decide_eq_true_eq, decide_eq_false_iff_not, beq_iff_eq, bne_iff_ne, beq_eq_false_iff_ne, bne_eq_false_iff_eq, Bool.true_and, ne_eq, Decidable.not_not, Int.not_lt, Int.not_le, Nat.not_lt, Nat.not_le, strB_nil, strB_nil', strB_nnil, strB_nnil'] at h2
    refine run_skip ?_
    refine run_seq ?_
    refine run_seq ?_
    refine run_region (q_assign .n (.c rfl) rfl <|
        Lex.nil) ?_
    refine run_block ?_
    refine run_LOOP (m_laws_szPermitS_b1 a left) _ _ _ rfl (fun (x1 : Int × Int) => 0 ≤ x1.2 ∧ x1.2 ≤ (a.length : Int)) (fun x1 => 0 ≤ x1.2 ∧ x1.2 ≤ (a.length : Int) ∧ (a.length : Int) ≤ x1.2) (fun x1 => ((a.length : Int) - x1.2 : Int).toNat) (fun x1 => ⟨[(0, some (true, .sl 5 (a.map gPermit.v))), (1, some (true, .int .i64 x1.1)), (5, some (true, .int .i64 x1.2))], []⟩) (fun x1 => ⟨[(1, some (true, .int .i64 x1.1))], []⟩) ⟨by first | omega | assumption | (simp only [List.length_append, List.length_cons, List.length_nil, List.length_replicate, put_len] at * <;> omega), by first | omega | assumption | (simp only [List.length_append, List.length_cons, List.length_nil, List.length_replicate, put_len] at * <;> omega)⟩ (by first | omega | assumption | (simp only [List.length_append, List.length_cons, List.length_nil, List.length_replicate, put_len] at * <;> omega)) (sub_of [] ⟨rfl, rfl, rfl, trivial⟩ trivial rfl) ?_ ?_
    · intro x1 i7
      obtain ⟨e8, e9, e10⟩ := i7
      try dsimp only at *
      refine run_seq ?_
      refine run_region (q_move .n (.t rfl) rfl <|
          q_assign .n (.t rfl) rfl <|
          Lex.nil) ?_
      exact run_ret [] (.cons (.t rfl rfl) .nil) rfl trivial rfl
    · intro rec1 k1 hk3 x1 i4
      obtain ⟨e11, e12⟩ := i4
      try dsimp only at *
      refine run_seq ?_
      refine run_seq ?_
      refine run_region (q_move .n (.t rfl) rfl <|
          q_move .n (.t rfl) rfl <|
          q_len .n (.t rfl) rfl len_map ss_25 rfl <|
          q_int .n (.t rfl) (.t rfl) rfl rfl <|
          Lex.nil) ?_
      refine run_cond (.t rfl) rfl (fun h5 => ?_) (fun h5 => ?_)
      · try simp only [Bool.and_eq_true, Bool.or_eq_true, Bool.not_eq_true', Bool.and_eq_false_iff, Bool.or_eq_false_iff, Bool.not_eq_false', decide_eq_true_eq, decide_eq_false_iff_not, beq_iff_eq, bne_iff_ne, beq_eq_false_iff_ne, bne_eq_false_iff_eq, Bool.true_and, ne_eq, Decidable.not_not, Int.not_lt, Int.not_le, Nat.not_lt, Nat.not_le, strB_nil, strB_nil', strB_nnil, strB_nnil'] at h5
        refine run_skip ?_
        refine run_seq ?_
        refine run_block ?_
        refine run_seq ?_
        refine run_region (q_move .n (.t rfl) rfl <|
            q_move .n (.t rfl) rfl <|
            q_idx_rm .n (.t rfl) (.t rfl) sl_25 (fun _ => by first | omega | assumption | (simp only [List.length_append, List.length_cons, List.length_nil, List.length_replicate, put_len] at * <;> omega)) rfl <|
            q_ldN_ro .n (.t rfl) ag_27 rfl rfl rfl <|
            q_move .n (.t rfl) rfl <|
            q_call0 (full := false) .n .f en_8 (.cons (.t rfl) (.cons (.t rfl) .nil)) (.cons (.sts rfl) (.cons (.b (.a (.same rfl))) .nil)) (fun hg => c_laws_szPermit (at' a x1.2) x1.1) rfl (fun h => Bool.noConfusion h) rfl <|
            q_assign .n (.t rfl) rfl <|
            Lex.nil) ?_
        refine run_seq ?_
        refine run_region (q_move .n (.t rfl) rfl <|
            q_int .n (.t rfl) (.c rfl) rfl rfl <|
            Lex.nil) ?_
        refine run_cond (.t rfl) rfl (fun h6 => ?_) (fun h6 => ?_)
        · try simp only [Bool.and_eq_true, Bool.or_eq_true, Bool.not_eq_true', Bool.and_eq_false_iff, Bool.or_eq_false_iff, Bool.not_eq_false', decide_eq_true_eq, decide_eq_false_iff_not, beq_iff_eq, bne_iff_ne, beq_eq_false_iff_ne, bne_eq_false_iff_eq, Bool.true_and, ne_eq, Decidable.not_not, Int.not_lt, Int.not_le, Nat.not_lt, Nat.not_le, strB_nil, strB_nil', strB_nnil, strB_nnil'] at h6
          try have hf0h6 := szPermit_impA (by assumption) (by omega) (by omega) h6
          try have hf1h6 := szPermit_impA (by assumption) (by omega) (by omega) h6.1
          try have hf2h6 := szPermit_impA (by assumption) (by omega) (by omega) h6.2
          try have hf3h6 := szPermit_impA (by assumption) (by omega) (by omega) h6.1.1
          try have hf4h6 := szPermit_impA (by assumption) (by omega) (by omega) h6.1.2
          try have hf5h6 := szPermit_impA (by assumption) (by omega) (by omega) h6.2.1
          try have hf6h6 := szPermit_impA (by assumption) (by omega) (by omega) h6.2.2
          try have hf7h6 := szPermit_impB (by assumption) (by omega) (by omega) h6
          try have hf8h6 := szPermit_impB (by assumption) (by omega) (by omega) h6.1
          try have hf9h6 := szPermit_impB (by assumption) (by omega) (by omega) h6.2
          try have hf10h6 := szPermit_impB (by assumption) (by omega) (by omega) h6.1.1
          try have hf11h6 := szPermit_impB (by assumption) (by omega) (by omega) h6.1.2
          try have hf12h6 := szPermit_impB (by assumption) (by omega) (by omega) h6.2.1
          try have hf13h6 := szPermit_impB (by assumption) (by omega) (by omega) h6.2.2
          refine run_seq ?_
          refine run_region (q_assign .n (.c rfl) rfl <|
              Lex.nil) ?_
          exact run_ret [] (.cons (.t rfl rfl) .nil) rfl trivial rfl
        · try simp only [Bool.and_eq_true, Bool.or_eq_true, Bool.not_eq_true', Bool.and_eq_false_iff, Bool.or_eq_false_iff, Bool.not_eq_false', decide_eq_true_eq, decide_eq_false_iff_not, beq_iff_eq, bne_iff_ne, beq_eq_false_iff_ne, bne_eq_false_iff_eq, Bool.true_and, ne_eq, Decidable.not_not, Int.not_lt, Int.not_le, Nat.not_lt, Nat.not_le, strB_nil, strB_nil', strB_nnil, strB_nnil'] at h6
          try have hf0h6 := szPermit_impA (by assumption) (by omega) (by omega) h6
          try have hf1h6 := szPermit_impA (by assumption) (by omega) (by omega) h6.1
          try have hf2h6 := szPermit_impA (by assumption) (by omega) (by omega) h6.2
          try have hf3h6 := szPermit_impA (by assumption) (by omega) (by omega) h6.1.1
          try have hf4h6 := szPermit_impA (by assumption) (by omega) (by omega) h6.1.2
          try have hf5h6 := szPermit_impA (by assumption) (by omega) (by omega) h6.2.1
          try have hf6h6 := szPermit_impA (by assumption) (by omega) (by omega) h6.2.2
          try have hf7h6 := szPermit_impB (by assumption) (by omega) (by omega) h6
          try have hf8h6 := szPermit_impB (by assumption) (by omega) (by omega) h6.1
          try have hf9h6 := szPermit_impB (by assumption) (by omega) (by omega) h6.2
          try have hf10h6 := szPermit_impB (by assumption) (by omega) (by omega) h6.1.1
          try have hf11h6 := szPermit_impB (by assumption) (by omega) (by omega) h6.1.2
          try have hf12h6 := szPermit_impB (by assumption) (by omega) (by omega) h6.2.1
          try have hf13h6 := szPermit_impB (by assumption) (by omega) (by omega) h6.2.2
          refine run_skip ?_
          refine run_endB ?_
          refine run_region (q_move .n (.t rfl) rfl <|
              q_add .n (.t rfl) (.c rfl) (fun _ => by first | omega | assumption | (simp only [List.length_append, List.length_cons, List.length_nil, List.length_replicate, put_len] at * <;> omega)) rfl <|
              q_assign .n (.t rfl) rfl <|
              Lex.nil) ?_
          exact run_again (m_laws_szPermit (at' a x1.2) x1.1, x1.2 + 1) ⟨by first | omega | assumption | (simp only [List.length_append, List.length_cons, List.length_nil, List.length_replicate, put_len] at * <;> omega), by first | omega | assumption | (simp only [List.length_append, List.length_cons, List.length_nil, List.length_replicate, put_len] at * <;> omega)⟩ (by first | omega | assumption | (simp only [List.length_append, List.length_cons, List.length_nil, List.length_replicate, put_len] at * <;> omega)) (sub_of [] ⟨rfl, rfl, rfl, trivial⟩ trivial rfl)
      · try simp only [Bool.and_eq_true, Bool.or_eq_true, Bool.not_eq_true', Bool.and_eq_false_iff, Bool.or_eq_false_iff, Bool.not_eq_false', decide_eq_true_eq, decide_eq_false_iff_not, beq_iff_eq, bne_iff_ne, beq_eq_false_iff_ne, bne_eq_false_iff_eq, Bool.true_and, ne_eq, Decidable.not_not, Int.not_lt, Int.not_le, Nat.not_lt, Nat.not_le, strB_nil, strB_nil', strB_nnil, strB_nnil'] at h5
        refine run_exit rfl ?_
        exact run_cont hk3 (x1.1, x1.2) ⟨by first | omega | assumption | (simp only [List.length_append, List.length_cons, List.length_nil, List.length_replicate, put_len] at * <;> omega), by first | omega | assumption | (simp only [List.length_append, List.length_cons, List.length_nil, List.length_replicate, put_len] at * <;> omega), by first | omega | assumption | (simp only [List.length_append, List.length_cons, List.length_nil, List.length_replicate, put_len] at * <;> omega)⟩ (sub_of [] ⟨rfl, trivial⟩ trivial rfl)

/-! ### spec_l00In -/
theorem c_spec_l00In (n_ : Int) (low : Int) (high : Int) : Con Try.prog 44 [.int .i64 n_, .int .i64 low, .int .i64 high] [] (.bool (m_spec_l00In n_ low high)) ([]) := by
  refine con_intro (out := fun r : Bool => ((.bool r : V), ([] : List (Nat × Option O)))) (r := (m_spec_l00In n_ low high)) Try.func44 rfl Try.ntmps44 rfl ?_
  refine run_seq ?_
  refine run_region (q_assign .n (.c rfl) rfl <|
      Lex.nil) ?_
  refine run_seq ?_
  refine run_region (q_move .n (.t rfl) rfl <|
      q_move .n (.t rfl) rfl <|
      q_int .n (.t rfl) (.t rfl) rfl rfl <|
      q_move .n (.t rfl) rfl <|
      q_move (.t rfl rfl) (.t rfl) rfl <|
      q_move (.t rfl rfl) (.t rfl) rfl <|
      q_int (.t rfl rfl) (.u rfl id) (.u rfl id) rfl rfl <|
      q_and .n (.t rfl) (.u rfl id) rfl <|
      q_assign .n (.t rfl) rfl <|
      Lex.nil) ?_
  exact run_ret [] (.cons (.t rfl rfl) .nil) rfl trivial rfl

/-! ### spec_l01Small -/
theorem c_spec_l01Small (c_ : Int) : Con Try.prog 87 [.int .u8 c_] [] (.bool (m_spec_l01Small c_)) ([]) := by
  refine con_intro (out := fun r : Bool => ((.bool r : V), ([] : List (Nat × Option O)))) (r := (m_spec_l01Small c_)) Try.func87 rfl Try.ntmps87 rfl ?_
  refine run_seq ?_
  refine run_region (q_assign .n (.c rfl) rfl <|
      Lex.nil) ?_
  refine run_seq ?_
  refine run_region (q_move .n (.t rfl) rfl <|
      q_int .n (.t rfl) (.c rfl) rfl rfl <|
      q_move .n (.t rfl) rfl <|
      q_move (.t rfl rfl) (.t rfl) rfl <|
      q_int (.t rfl rfl) (.u rfl id) (.c rfl) rfl rfl <|
      q_and .n (.t rfl) (.u rfl id) rfl <|
      q_assign .n (.t rfl) rfl <|
      Lex.nil) ?_
  exact run_ret [] (.cons (.t rfl rfl) .nil) rfl trivial rfl

/-! ### spec_l01Digit -/
theorem c_spec_l01Digit (c_ : Int) : Con Try.prog 88 [.int .u8 c_] [] (.bool (m_spec_l01Digit c_)) ([]) := by
  refine con_intro (out := fun r : Bool => ((.bool r : V), ([] : List (Nat × Option O)))) (r := (m_spec_l01Digit c_)) Try.func88 rfl Try.ntmps88 rfl ?_
  refine run_seq ?_
  refine run_region (q_assign .n (.c rfl) rfl <|
      Lex.nil) ?_
  refine run_seq ?_
  refine run_region (q_move .n (.t rfl) rfl <|
      q_int .n (.t rfl) (.c rfl) rfl rfl <|
      q_move .n (.t rfl) rfl <|
      q_move (.t rfl rfl) (.t rfl) rfl <|
      q_int (.t rfl rfl) (.u rfl id) (.c rfl) rfl rfl <|
      q_and .n (.t rfl) (.u rfl id) rfl <|
      q_assign .n (.t rfl) rfl <|
      Lex.nil) ?_
  exact run_ret [] (.cons (.t rfl rfl) .nil) rfl trivial rfl

/-! ### spec_l01Name -/
theorem c_spec_l01Name (s_ : List UInt8) : Con Try.prog 61 [.str s_] [] (.bool (m_spec_l01Name s_)) ([]) := by
  refine con_intro (out := fun r : Bool => ((.bool r : V), ([] : List (Nat × Option O)))) (r := (m_spec_l01Name s_)) Try.func61 rfl Try.ntmps61 rfl ?_
  refine run_seq ?_
  refine run_region (q_assign .n (.c rfl) rfl <|
      Lex.nil) ?_
  refine run_seq ?_
  refine run_seq ?_
  refine run_region (q_move .n (.t rfl) rfl <|
      q_strcmp .n (.t rfl) (.c rfl) rfl rfl <|
      q_move .n (.t rfl) rfl <|
      q_move (.f rfl rfl) (.t rfl) rfl <|
      q_len (.f rfl rfl) (.u rfl id) rfl rfl st_9 rfl <|
      q_int (.f rfl rfl) (.u rfl id) (.c rfl) rfl rfl <|
      q_or .n (.t rfl) (.u rfl id) rfl <|
      q_move .n (.t rfl) rfl <|
      q_move (.f rfl rfl) (.t rfl) rfl <|
      q_strat (.f rfl rfl) (.u rfl id) (.c rfl) st_9 (fun hg => by simp only [Bool.and_eq_true, Bool.or_eq_true, Bool.not_eq_true', Bool.and_eq_false_iff, Bool.or_eq_false_iff, Bool.not_eq_false', decide_eq_true_eq, decide_eq_false_iff_not, beq_iff_eq, bne_iff_ne, beq_eq_false_iff_ne, bne_eq_false_iff_eq, Bool.true_and, ne_eq, Decidable.not_not, Int.not_lt, Int.not_le, Nat.not_lt, Nat.not_le, strB_nil, strB_nil', strB_nnil, strB_nnil'] at hg; first | omega | assumption | (simp only [List.length_append, List.length_cons, List.length_nil, List.length_replicate, put_len] at * <;> omega)) rfl <|
      q_call0 (full := false) (.f rfl rfl) .f en_87 (.cons (.u rfl id) .nil) (.cons (.b (.a (.same rfl))) .nil) (fun hg => c_spec_l01Small (((s_.getD (0 : Int).toNat 0).toNat : Nat) : Int)) rfl (fun h => Bool.noConfusion h) rfl <|
      q_not (.f rfl rfl) (.u rfl id) rfl <|
      q_or .n (.t rfl) (.u rfl id) rfl <|
      Lex.nil) ?_
  refine run_cond (.t rfl) rfl (fun h1 => ?_) (fun h1 => ?_)
  · try simp only [Bool.and_eq_true, Bool.or_eq_true, Bool.not_eq_true', Bool.and_eq_false_iff, Bool.or_eq_false_iff, Bool.not_eq_false', decide_eq_true_eq, decide_eq_false_iff_not, beq_iff_eq, bne_iff_ne, beq_eq_false_iff_ne, bne_eq_false_iff_eq, Bool.true_and, ne_eq, Decidable.not_not, Int.not_lt, Int.not_le, Nat.not_lt, Nat.not_le, strB_nil, strB_nil', strB_nnil, strB_nnil'] at h1
    refine run_seq ?_
    refine run_region (q_assign .n (.c rfl) rfl <|
        Lex.nil) ?_
    exact run_ret [] (.cons (.t rfl rfl) .nil) rfl trivial rfl
  · try simp only [Bool.and_eq_true, Bool.or_eq_true, Bool.not_eq_true', Bool.and_eq_false_iff, Bool.or_eq_false_iff, Bool.not_eq_false', decide_eq_true_eq, decide_eq_false_iff_not, beq_iff_eq, bne_iff_ne, beq_eq_false_iff_ne, bne_eq_false_iff_eq, Bool.true_and, ne_eq, Decidable.not_not, Int.not_lt, Int.not_le, Nat.not_lt, Nat.not_le, strB_nil, strB_nil', strB_nnil, strB_nnil'] at h1
    refine run_skip ?_
    refine run_seq ?_
    refine run_seq ?_
    refine run_region (q_assign .n (.c rfl) rfl <|
        Lex.nil) ?_
    refine run_block ?_
    refine run_LOOP (m_spec_l01Name_b1 s_) _ _ _ rfl (fun (x1 : Int) => 0 ≤ x1 ∧ x1 ≤ (s_.length : Int)) (fun x1 => 0 ≤ x1 ∧ x1 ≤ (s_.length : Int) ∧ (s_.length : Int) ≤ x1) (fun x1 => ((s_.length : Int) - x1 : Int).toNat) (fun x1 => ⟨[(0, some (true, .str s_)), (3, some (true, .int .i64 x1))], []⟩) (fun x1 => ⟨[], []⟩) ⟨by first | omega | assumption | (simp only [List.length_append, List.length_cons, List.length_nil, List.length_replicate, put_len] at * <;> omega), by first | omega | assumption | (simp only [List.length_append, List.length_cons, List.length_nil, List.length_replicate, put_len] at * <;> omega)⟩ (by first | omega | assumption | (simp only [List.length_append, List.length_cons, List.length_nil, List.length_replicate, put_len] at * <;> omega)) (sub_of [] ⟨rfl, rfl, trivial⟩ trivial rfl) ?_ ?_
    · intro x1 i6
      obtain ⟨e7, e8, e9⟩ := i6
      try dsimp only at *
      refine run_seq ?_
      refine run_region (q_assign .n (.c rfl) rfl <|
          Lex.nil) ?_
      exact run_ret [] (.cons (.t rfl rfl) .nil) rfl trivial rfl
    · intro rec1 k1 hk2 x1 i3
      obtain ⟨e10, e11⟩ := i3
      try dsimp only at *
      refine run_seq ?_
      refine run_seq ?_
      refine run_region (q_move .n (.t rfl) rfl <|
          q_move .n (.t rfl) rfl <|
          q_len .n (.t rfl) rfl rfl st_9 rfl <|
          q_int .n (.t rfl) (.t rfl) rfl rfl <|
          Lex.nil) ?_
      refine run_cond (.t rfl) rfl (fun h4 => ?_) (fun h4 => ?_)
      · try simp only [Bool.and_eq_true, Bool.or_eq_true, Bool.not_eq_true', Bool.and_eq_false_iff, Bool.or_eq_false_iff, Bool.not_eq_false', decide_eq_true_eq, decide_eq_false_iff_not, beq_iff_eq, bne_iff_ne, beq_eq_false_iff_ne, bne_eq_false_iff_eq, Bool.true_and, ne_eq, Decidable.not_not, Int.not_lt, Int.not_le, Nat.not_lt, Nat.not_le, strB_nil, strB_nil', strB_nnil, strB_nnil'] at h4
        refine run_skip ?_
        refine run_seq ?_
        refine run_block ?_
        refine run_seq ?_
        refine run_region (q_move .n (.t rfl) rfl <|
            q_move .n (.t rfl) rfl <|
            q_strat .n (.t rfl) (.t rfl) st_9 (fun _ => by first | omega | assumption | (simp only [List.length_append, List.length_cons, List.length_nil, List.length_replicate, put_len] at * <;> omega)) rfl <|
            q_call0 (full := false) .n .f en_87 (.cons (.t rfl) .nil) (.cons (.b (.a (.same rfl))) .nil) (fun hg => c_spec_l01Small (((s_.getD x1.toNat 0).toNat : Nat) : Int)) rfl (fun h => Bool.noConfusion h) rfl <|
            q_not .n (.t rfl) rfl <|
            q_move .n (.t rfl) rfl <|
            q_move (.t rfl rfl) (.t rfl) rfl <|
            q_move (.t rfl rfl) (.t rfl) rfl <|
            q_strat (.t rfl rfl) (.u rfl id) (.u rfl id) st_9 (fun hg => by simp only [Bool.and_eq_true, Bool.or_eq_true, Bool.not_eq_true', Bool.and_eq_false_iff, Bool.or_eq_false_iff, Bool.not_eq_false', decide_eq_true_eq, decide_eq_false_iff_not, beq_iff_eq, bne_iff_ne, beq_eq_false_iff_ne, bne_eq_false_iff_eq, Bool.true_and, ne_eq, Decidable.not_not, Int.not_lt, Int.not_le, Nat.not_lt, Nat.not_le, strB_nil, strB_nil', strB_nnil, strB_nnil'] at hg; first | omega | assumption | (simp only [List.length_append, List.length_cons, List.length_nil, List.length_replicate, put_len] at * <;> omega)) rfl <|
            q_call0 (full := false) (.t rfl rfl) .f en_88 (.cons (.u rfl id) .nil) (.cons (.b (.a (.same rfl))) .nil) (fun hg => c_spec_l01Digit (((s_.getD x1.toNat 0).toNat : Nat) : Int)) rfl (fun h => Bool.noConfusion h) rfl <|
            q_not (.t rfl rfl) (.u rfl id) rfl <|
            q_and .n (.t rfl) (.u rfl id) rfl <|
            Lex.nil) ?_
        refine run_cond (.t rfl) rfl (fun h5 => ?_) (fun h5 => ?_)
        · try simp only [Bool.and_eq_true, Bool.or_eq_true, Bool.not_eq_true', Bool.and_eq_false_iff, Bool.or_eq_false_iff, Bool.not_eq_false', decide_eq_true_eq, decide_eq_false_iff_not, beq_iff_eq, bne_iff_ne, beq_eq_false_iff_ne, bne_eq_false_iff_eq, Bool.true_and, ne_eq, Decidable.not_not, Int.not_lt, Int.not_le, Nat.not_lt, Nat.not_le, strB_nil, strB_nil', strB_nnil, strB_nnil'] at h5
          refine run_seq ?_
          refine run_region (q_assign .n (.c rfl) rfl <|
              Lex.nil) ?_
          exact run_ret [] (.cons (.t rfl rfl) .nil) rfl trivial rfl
        · try simp only [Bool.and_eq_true, Bool.or_eq_true, Bool.not_eq_true', Bool.and_eq_false_iff, Bool.or_eq_false_iff, Bool.not_eq_false', decide_eq_true_eq, decide_eq_false_iff_not, beq_iff_eq, bne_iff_ne, beq_eq_false_iff_ne, bne_eq_false_iff_eq, Bool.true_and, ne_eq, Decidable.not_not, Int.not_lt, Int.not_le, Nat.not_lt, Nat.not_le, strB_nil, strB_nil', strB_nnil, strB_nnil'] at h5
          refine run_skip ?_
          refine run_endB ?_
          refine run_region (q_move .n (.t rfl) rfl <|
              q_add .n (.t rfl) (.c rfl) (fun _ => by first | omega | assumption | (simp only [List.length_append, List.length_cons, List.length_nil, List.length_replicate, put_len] at * <;> omega)) rfl <|
              q_assign .n (.t rfl) rfl <|
              Lex.nil) ?_
          exact run_again (x1 + 1) ⟨by first | omega | assumption | (simp only [List.length_append, List.length_cons, List.length_nil, List.length_replicate, put_len] at * <;> omega), by first | omega | assumption | (simp only [List.length_append, List.length_cons, List.length_nil, List.length_replicate, put_len] at * <;> omega)⟩ (by first | omega | assumption | (simp only [List.length_append, List.length_cons, List.length_nil, List.length_replicate, put_len] at * <;> omega)) (sub_of [] ⟨rfl, rfl, trivial⟩ trivial rfl)
      · try simp only [Bool.and_eq_true, Bool.or_eq_true, Bool.not_eq_true', Bool.and_eq_false_iff, Bool.or_eq_false_iff, Bool.not_eq_false', decide_eq_true_eq, decide_eq_false_iff_not, beq_iff_eq, bne_iff_ne, beq_eq_false_iff_ne, bne_eq_false_iff_eq, Bool.true_and, ne_eq, Decidable.not_not, Int.not_lt, Int.not_le, Nat.not_lt, Nat.not_le, strB_nil, strB_nil', strB_nnil, strB_nnil'] at h4
        refine run_exit rfl ?_
        exact run_cont hk2 x1 ⟨by first | omega | assumption | (simp only [List.length_append, List.length_cons, List.length_nil, List.length_replicate, put_len] at * <;> omega), by first | omega | assumption | (simp only [List.length_append, List.length_cons, List.length_nil, List.length_replicate, put_len] at * <;> omega), by first | omega | assumption | (simp only [List.length_append, List.length_cons, List.length_nil, List.length_replicate, put_len] at * <;> omega)⟩ (sub_of [] trivial trivial rfl)

/-! ### spec_l26Kind -/
theorem c_spec_l26Kind (kind : Int) : Con Try.prog 62 [.int .i64 kind] [] (.bool (m_spec_l26Kind kind)) ([]) := by
  refine con_intro (out := fun r : Bool => ((.bool r : V), ([] : List (Nat × Option O)))) (r := (m_spec_l26Kind kind)) Try.func62 rfl Try.ntmps62 rfl ?_
  refine run_seq ?_
  refine run_region (q_assign .n (.c rfl) rfl <|
      Lex.nil) ?_
  refine run_seq ?_
  refine run_region (q_move .n (.t rfl) rfl <|
      q_call0 (full := false) .n .f en_44 (.cons (.t rfl) (.cons (.c rfl) (.cons (.c rfl) .nil))) (.cons (.b (.a (.same rfl))) (.cons (.b (.a (.same rfl))) (.cons (.b (.a (.same rfl))) .nil))) (fun hg => c_spec_l00In kind 1 4) rfl (fun h => Bool.noConfusion h) rfl <|
      q_assign .n (.t rfl) rfl <|
      Lex.nil) ?_
  exact run_ret [] (.cons (.t rfl rfl) .nil) rfl trivial rfl

/-! ### spec_l14Airway -/
theorem c_spec_l14Airway (a : Int) : Con Try.prog 63 [.int .i64 a] [] (.bool (m_spec_l14Airway a)) ([]) := by
  refine con_intro (out := fun r : Bool => ((.bool r : V), ([] : List (Nat × Option O)))) (r := (m_spec_l14Airway a)) Try.func63 rfl Try.ntmps63 rfl ?_
  refine run_seq ?_
  refine run_region (q_assign .n (.c rfl) rfl <|
      Lex.nil) ?_
  refine run_seq ?_
  refine run_region (q_move .n (.t rfl) rfl <|
      q_call0 (full := false) .n .f en_44 (.cons (.t rfl) (.cons (.c rfl) (.cons (.c rfl) .nil))) (.cons (.b (.a (.same rfl))) (.cons (.b (.a (.same rfl))) (.cons (.b (.a (.same rfl))) .nil))) (fun hg => c_spec_l00In a 0 23) rfl (fun h => Bool.noConfusion h) rfl <|
      q_assign .n (.t rfl) rfl <|
      Lex.nil) ?_
  exact run_ret [] (.cons (.t rfl rfl) .nil) rfl trivial rfl

/-! ### spec_l26One -/
theorem c_spec_l26One (x_ : gPermit) : Con Try.prog 31 [.rp [.str x_.Id, .int .i64 x_.Kind, .int .i64 x_.Airway, .int .i64 x_.From, .int .i64 x_.Until]] [] (.bool (m_spec_l26One x_)) ([]) := by
  refine con_intro (out := fun r : Bool => ((.bool r : V), ([] : List (Nat × Option O)))) (r := (m_spec_l26One x_)) Try.func31 rfl Try.ntmps31 rfl ?_
  refine run_seq ?_
  refine run_region (q_assign .n (.c rfl) rfl <|
      Lex.nil) ?_
  refine run_seq ?_
  refine run_draw fmo (q_move .n (.t rfl) rfl <|
      q_nilc_ro .n (.t rfl) rfl <|
      q_fld_ro .n (.t rfl) fo_39_0 rfl <|
      q_ld1_ro .n (.t rfl) rfl ic_9 rfl <|
      q_call0 (full := false) .n .f en_61 (.cons (.t rfl) .nil) (.cons (.b (.a (.same rfl))) .nil) (fun hg => c_spec_l01Name x_.Id) rfl (fun h => Bool.noConfusion h) rfl <|
      q_move .n (.t rfl) rfl <|
      q_move (.t rfl rfl) (.t rfl) rfl <|
      q_nilc_ro (.t rfl rfl) (.u rfl id) rfl <|
      q_fld_ro (.t rfl rfl) (.u rfl id) fo_39_1 rfl <|
      q_ld1_ro (.t rfl rfl) (.u rfl id) rfl ic_2 rfl <|
      q_call0 (full := false) (.t rfl rfl) .f en_62 (.cons (.u rfl id) .nil) (.cons (.b (.a (.same rfl))) .nil) (fun hg => c_spec_l26Kind x_.Kind) rfl (fun h => Bool.noConfusion h) rfl <|
      q_and .n (.t rfl) (.u rfl id) rfl <|
      q_move .n (.t rfl) rfl <|
      q_move (.t rfl rfl) (.t rfl) rfl <|
      q_nilc_ro (.t rfl rfl) (.u rfl id) rfl <|
      q_fld_ro (.t rfl rfl) (.u rfl id) fo_39_2 rfl <|
      q_ld1_ro (.t rfl rfl) (.u rfl id) rfl ic_2 rfl <|
      q_call0 (full := false) (.t rfl rfl) .f en_63 (.cons (.u rfl id) .nil) (.cons (.b (.a (.same rfl))) .nil) (fun hg => c_spec_l14Airway x_.Airway) rfl (fun h => Bool.noConfusion h) rfl <|
      q_and .n (.t rfl) (.u rfl id) rfl <|
      q_move .n (.t rfl) rfl <|
      q_move (.t rfl rfl) (.t rfl) rfl <|
      q_nilc_ro (.t rfl rfl) (.u rfl id) rfl <|
      q_fld_ro (.t rfl rfl) (.u rfl id) fo_39_3 rfl <|
      q_ld1_ro (.t rfl rfl) (.u rfl id) rfl ic_2 rfl <|
      q_call0 (full := false) (.t rfl rfl) .f en_44 (.cons (.u rfl id) (.cons (.c rfl) (.cons (.c rfl) .nil))) (.cons (.b (.a (.same rfl))) (.cons (.b (.a (.same rfl))) (.cons (.b (.a (.same rfl))) .nil))) (fun hg => c_spec_l00In x_.From 0 99999) rfl (fun h => Bool.noConfusion h) rfl <|
      q_and .n (.t rfl) (.u rfl id) rfl <|
      q_move .n (.t rfl) rfl <|
      q_move (.t rfl rfl) (.t rfl) rfl <|
      q_nilc_ro (.t rfl rfl) (.u rfl id) rfl <|
      q_fld_ro (.t rfl rfl) (.u rfl id) fo_39_4 rfl <|
      q_ld1_ro (.t rfl rfl) (.u rfl id) rfl ic_2 rfl <|
      q_move (.t rfl rfl) (.t rfl) rfl <|
      q_nilc_ro (.t rfl rfl) (.u rfl id) rfl <|
      q_fld_ro (.t rfl rfl) (.u rfl id) fo_39_3 rfl <|
      q_ld1_ro (.t rfl rfl) (.u rfl id) rfl ic_2 rfl <|
      q_int (.t rfl rfl) (.u rfl id) (.c rfl) rfl rfl <|
      q_call0 (full := false) (.t rfl rfl) .f en_44 (.cons (.u rfl id) (.cons (.u rfl id) (.cons (.c rfl) .nil))) (.cons (.b (.a (.same rfl))) (.cons (.b (.a (.same rfl))) (.cons (.b (.a (.same rfl))) .nil))) (fun hg => c_spec_l00In x_.Until (IntKind.wrap .i64 (x_.From + 1)) 100000) rfl (fun h => Bool.noConfusion h) rfl <|
      q_and .n (.t rfl) (.u rfl id) rfl <|
      q_assign .n (.t rfl) rfl <|
      Lex.nil) (by kernel_rfl) ?_
  exact run_ret [] (.cons (.t rfl rfl) .nil) rfl trivial rfl

/-! ### spec_l03Ok -/
theorem c_spec_l03Ok (a : gAirway) : Con Try.prog 85 [.rp [.str a.Id, .int .i64 a.From, .int .i64 a.To, .int .i64 a.Length, .int .i64 a.Section, .int .i64 a.Friction, .int .i64 a.Shock]] [] (.bool (m_spec_l03Ok a)) ([]) := by
  refine con_intro (out := fun r : Bool => ((.bool r : V), ([] : List (Nat × Option O)))) (r := (m_spec_l03Ok a)) Try.func85 rfl Try.ntmps85 rfl ?_
  refine run_seq ?_
  refine run_region (q_assign .n (.c rfl) rfl <|
      Lex.nil) ?_
  refine run_seq ?_
  refine run_seq ?_
  refine run_draw fmo (q_move .n (.t rfl) rfl <|
      q_nilc_ro .n (.t rfl) rfl <|
      q_fld_ro .n (.t rfl) fo_74_0 rfl <|
      q_ld1_ro .n (.t rfl) rfl ic_9 rfl <|
      q_call0 (full := false) .n .f en_61 (.cons (.t rfl) .nil) (.cons (.b (.a (.same rfl))) .nil) (fun hg => c_spec_l01Name a.Id) rfl (fun h => Bool.noConfusion h) rfl <|
      q_not .n (.t rfl) rfl <|
      q_move .n (.t rfl) rfl <|
      q_move (.f rfl rfl) (.t rfl) rfl <|
      q_nilc_ro (.f rfl rfl) (.u rfl id) rfl <|
      q_fld_ro (.f rfl rfl) (.u rfl id) fo_74_1 rfl <|
      q_ld1_ro (.f rfl rfl) (.u rfl id) rfl ic_2 rfl <|
      q_call0 (full := false) (.f rfl rfl) .f en_44 (.cons (.u rfl id) (.cons (.c rfl) (.cons (.c rfl) .nil))) (.cons (.b (.a (.same rfl))) (.cons (.b (.a (.same rfl))) (.cons (.b (.a (.same rfl))) .nil))) (fun hg => c_spec_l00In a.From 0 15) rfl (fun h => Bool.noConfusion h) rfl <|
      q_not (.f rfl rfl) (.u rfl id) rfl <|
      q_or .n (.t rfl) (.u rfl id) rfl <|
      q_move .n (.t rfl) rfl <|
      q_move (.f rfl rfl) (.t rfl) rfl <|
      q_nilc_ro (.f rfl rfl) (.u rfl id) rfl <|
      q_fld_ro (.f rfl rfl) (.u rfl id) fo_74_2 rfl <|
      q_ld1_ro (.f rfl rfl) (.u rfl id) rfl ic_2 rfl <|
      q_call0 (full := false) (.f rfl rfl) .f en_44 (.cons (.u rfl id) (.cons (.c rfl) (.cons (.c rfl) .nil))) (.cons (.b (.a (.same rfl))) (.cons (.b (.a (.same rfl))) (.cons (.b (.a (.same rfl))) .nil))) (fun hg => c_spec_l00In a.To 0 15) rfl (fun h => Bool.noConfusion h) rfl <|
      q_not (.f rfl rfl) (.u rfl id) rfl <|
      q_or .n (.t rfl) (.u rfl id) rfl <|
      q_move .n (.t rfl) rfl <|
      q_move (.f rfl rfl) (.t rfl) rfl <|
      q_nilc_ro (.f rfl rfl) (.u rfl id) rfl <|
      q_fld_ro (.f rfl rfl) (.u rfl id) fo_74_1 rfl <|
      q_ld1_ro (.f rfl rfl) (.u rfl id) rfl ic_2 rfl <|
      q_move (.f rfl rfl) (.t rfl) rfl <|
      q_nilc_ro (.f rfl rfl) (.u rfl id) rfl <|
      q_fld_ro (.f rfl rfl) (.u rfl id) fo_74_2 rfl <|
      q_ld1_ro (.f rfl rfl) (.u rfl id) rfl ic_2 rfl <|
      q_int (.f rfl rfl) (.u rfl id) (.u rfl id) rfl rfl <|
      q_or .n (.t rfl) (.u rfl id) rfl <|
      Lex.nil) (by kernel_rfl) ?_
  refine run_cond (.t rfl) rfl (fun h1 => ?_) (fun h1 => ?_)
  · try simp only [Bool.and_eq_true, Bool.or_eq_true, Bool.not_eq_true', Bool.and_eq_false_iff, Bool.or_eq_false_iff, Bool.not_eq_false', decide_eq_true_eq, decide_eq_false_iff_not, beq_iff_eq, bne_iff_ne, beq_eq_false_iff_ne, bne_eq_false_iff_eq, Bool.true_and, ne_eq, Decidable.not_not, Int.not_lt, Int.not_le, Nat.not_lt, Nat.not_le, strB_nil, strB_nil', strB_nnil, strB_nnil'] at h1
    try have hf0h1 := l00In_imp h1
    try have hf1h1 := l00In_imp h1.1
    try have hf2h1 := l00In_imp h1.2
    try have hf3h1 := l00In_imp h1.1.1
    try have hf4h1 := l00In_imp h1.1.2
    try have hf5h1 := l00In_imp h1.2.1
    try have hf6h1 := l00In_imp h1.2.2
    refine run_seq ?_
    refine run_region (q_assign .n (.c rfl) rfl <|
        Lex.nil) ?_
    exact run_ret [] (.cons (.t rfl rfl) .nil) rfl trivial rfl
  · try simp only [Bool.and_eq_true, Bool.or_eq_true, Bool.not_eq_true', Bool.and_eq_false_iff, Bool.or_eq_false_iff, Bool.not_eq_false', decide_eq_true_eq, decide_eq_false_iff_not, beq_iff_eq, bne_iff_ne, beq_eq_false_iff_ne, bne_eq_false_iff_eq, Bool.true_and, ne_eq, Decidable.not_not, Int.not_lt, Int.not_le, Nat.not_lt, Nat.not_le, strB_nil, strB_nil', strB_nnil, strB_nnil'] at h1
    try have hf0h1 := l00In_imp h1
    try have hf1h1 := l00In_imp h1.1
    try have hf2h1 := l00In_imp h1.2
    try have hf3h1 := l00In_imp h1.1.1
    try have hf4h1 := l00In_imp h1.1.2
    try have hf5h1 := l00In_imp h1.2.1
    try have hf6h1 := l00In_imp h1.2.2
    refine run_skip ?_
    refine run_seq ?_
    refine run_region (q_move .n (.t rfl) rfl <|
        q_nilc_ro .n (.t rfl) rfl <|
        q_fld_ro .n (.t rfl) fo_74_3 rfl <|
        q_ld1_ro .n (.t rfl) rfl ic_2 rfl <|
        q_call0 (full := false) .n .f en_44 (.cons (.t rfl) (.cons (.c rfl) (.cons (.c rfl) .nil))) (.cons (.b (.a (.same rfl))) (.cons (.b (.a (.same rfl))) (.cons (.b (.a (.same rfl))) .nil))) (fun hg => c_spec_l00In a.Length 1 10000) rfl (fun h => Bool.noConfusion h) rfl <|
        q_move .n (.t rfl) rfl <|
        q_move (.t rfl rfl) (.t rfl) rfl <|
        q_nilc_ro (.t rfl rfl) (.u rfl id) rfl <|
        q_fld_ro (.t rfl rfl) (.u rfl id) fo_74_4 rfl <|
        q_ld1_ro (.t rfl rfl) (.u rfl id) rfl ic_2 rfl <|
        q_call0 (full := false) (.t rfl rfl) .f en_44 (.cons (.u rfl id) (.cons (.c rfl) (.cons (.c rfl) .nil))) (.cons (.b (.a (.same rfl))) (.cons (.b (.a (.same rfl))) (.cons (.b (.a (.same rfl))) .nil))) (fun hg => c_spec_l00In a.Section 50 5000) rfl (fun h => Bool.noConfusion h) rfl <|
        q_and .n (.t rfl) (.u rfl id) rfl <|
        q_move .n (.t rfl) rfl <|
        q_move (.t rfl rfl) (.t rfl) rfl <|
        q_nilc_ro (.t rfl rfl) (.u rfl id) rfl <|
        q_fld_ro (.t rfl rfl) (.u rfl id) fo_74_5 rfl <|
        q_ld1_ro (.t rfl rfl) (.u rfl id) rfl ic_2 rfl <|
        q_call0 (full := false) (.t rfl rfl) .f en_44 (.cons (.u rfl id) (.cons (.c rfl) (.cons (.c rfl) .nil))) (.cons (.b (.a (.same rfl))) (.cons (.b (.a (.same rfl))) (.cons (.b (.a (.same rfl))) .nil))) (fun hg => c_spec_l00In a.Friction 1 1000) rfl (fun h => Bool.noConfusion h) rfl <|
        q_and .n (.t rfl) (.u rfl id) rfl <|
        q_move .n (.t rfl) rfl <|
        q_move (.t rfl rfl) (.t rfl) rfl <|
        q_nilc_ro (.t rfl rfl) (.u rfl id) rfl <|
        q_fld_ro (.t rfl rfl) (.u rfl id) fo_74_6 rfl <|
        q_ld1_ro (.t rfl rfl) (.u rfl id) rfl ic_2 rfl <|
        q_call0 (full := false) (.t rfl rfl) .f en_44 (.cons (.u rfl id) (.cons (.c rfl) (.cons (.c rfl) .nil))) (.cons (.b (.a (.same rfl))) (.cons (.b (.a (.same rfl))) (.cons (.b (.a (.same rfl))) .nil))) (fun hg => c_spec_l00In a.Shock 0 1000) rfl (fun h => Bool.noConfusion h) rfl <|
        q_and .n (.t rfl) (.u rfl id) rfl <|
        q_assign .n (.t rfl) rfl <|
        Lex.nil) ?_
    exact run_ret [] (.cons (.t rfl rfl) .nil) rfl trivial rfl

/-! ### spec_l04Junction -/
theorem c_spec_l04Junction (m_ : gMine) (j : Int) : Con Try.prog 86 [.rp [.int .i64 m_.Junctions, .sl 7 (m_.Airways.map gAirway.v)], .int .i64 j] [] (.bool (m_spec_l04Junction m_ j)) ([]) := by
  refine con_intro (out := fun r : Bool => ((.bool r : V), ([] : List (Nat × Option O)))) (r := (m_spec_l04Junction m_ j)) Try.func86 rfl Try.ntmps86 rfl ?_
  refine run_factP (t := 0) 1 rfl rfl fun hl => ?_
  have l1 := hl; clear hl; simp only [List.length_map] at l1
  refine run_seq ?_
  refine run_region (q_assign .n (.c rfl) rfl <|
      Lex.nil) ?_
  refine run_seq ?_
  refine run_region (q_move .n (.t rfl) rfl <|
      q_move .n (.t rfl) rfl <|
      q_nilc_ro .n (.t rfl) rfl <|
      q_fld_ro .n (.t rfl) fo_35_0 rfl <|
      q_ld1_ro .n (.t rfl) rfl ic_2 rfl <|
      q_int .n (.t rfl) (.c rfl) rfl rfl <|
      q_call0 (full := false) .n .f en_44 (.cons (.t rfl) (.cons (.c rfl) (.cons (.t rfl) .nil))) (.cons (.b (.a (.same rfl))) (.cons (.b (.a (.same rfl))) (.cons (.b (.a (.same rfl))) .nil))) (fun hg => c_spec_l00In j 0 (IntKind.wrap .i64 (m_.Junctions - 1))) rfl (fun h => Bool.noConfusion h) rfl <|
      q_assign .n (.t rfl) rfl <|
      Lex.nil) ?_
  exact run_ret [] (.cons (.t rfl rfl) .nil) rfl trivial rfl

/-! ### spec_l04Ok -/
theorem c_spec_l04Ok (m_ : gMine) : Con Try.prog 60 [.rp [.int .i64 m_.Junctions, .sl 7 (m_.Airways.map gAirway.v)]] [] (.bool (m_spec_l04Ok m_)) ([]) := by
  refine con_intro (out := fun r : Bool => ((.bool r : V), ([] : List (Nat × Option O)))) (r := (m_spec_l04Ok m_)) Try.func60 rfl Try.ntmps60 rfl ?_
  refine run_factP (t := 0) 1 rfl rfl fun hl => ?_
  have l1 := hl; clear hl; simp only [List.length_map] at l1
  refine run_seq ?_
  refine run_region (q_assign .n (.c rfl) rfl <|
      Lex.nil) ?_
  refine run_seq ?_
  refine run_seq ?_
  refine run_region (q_move .n (.t rfl) rfl <|
      q_nilc_ro .n (.t rfl) rfl <|
      q_fld_ro .n (.t rfl) fo_35_0 rfl <|
      q_ld1_ro .n (.t rfl) rfl ic_2 rfl <|
      q_call0 (full := false) .n .f en_44 (.cons (.t rfl) (.cons (.c rfl) (.cons (.c rfl) .nil))) (.cons (.b (.a (.same rfl))) (.cons (.b (.a (.same rfl))) (.cons (.b (.a (.same rfl))) .nil))) (fun hg => c_spec_l00In m_.Junctions 1 16) rfl (fun h => Bool.noConfusion h) rfl <|
      q_not .n (.t rfl) rfl <|
      Lex.nil) ?_
  refine run_cond (.t rfl) rfl (fun h2 => ?_) (fun h2 => ?_)
  · try simp only [Bool.and_eq_true, Bool.or_eq_true, Bool.not_eq_true', Bool.and_eq_false_iff, Bool.or_eq_false_iff, Bool.not_eq_false', decide_eq_true_eq, decide_eq_false_iff_not, beq_iff_eq, bne_iff_ne, beq_eq_false_iff_ne, bne_eq_false_iff_eq, Bool.true_and, ne_eq, Decidable.not_not, Int.not_lt, Int.not_le, Nat.not_lt, Nat.not_le, strB_nil, strB_nil', strB_nnil, strB_nnil'] at h2
    try have hf0h2 := l00In_imp h2
    try have hf1h2 := l00In_imp h2.1
    try have hf2h2 := l00In_imp h2.2
    try have hf3h2 := l00In_imp h2.1.1
    try have hf4h2 := l00In_imp h2.1.2
    try have hf5h2 := l00In_imp h2.2.1
    try have hf6h2 := l00In_imp h2.2.2
    refine run_seq ?_
    refine run_region (q_assign .n (.c rfl) rfl <|
        Lex.nil) ?_
    exact run_ret [] (.cons (.t rfl rfl) .nil) rfl trivial rfl
  · try simp only [Bool.and_eq_true, Bool.or_eq_true, Bool.not_eq_true', Bool.and_eq_false_iff, Bool.or_eq_false_iff, Bool.not_eq_false', decide_eq_true_eq, decide_eq_false_iff_not, beq_iff_eq, bne_iff_ne, beq_eq_false_iff_ne, bne_eq_false_iff_eq, Bool.true_and, ne_eq, Decidable.not_not, Int.not_lt, Int.not_le, Nat.not_lt, Nat.not_le, strB_nil, strB_nil', strB_nnil, strB_nnil'] at h2
    try have hf0h2 := l00In_imp h2
    try have hf1h2 := l00In_imp h2.1
    try have hf2h2 := l00In_imp h2.2
    try have hf3h2 := l00In_imp h2.1.1
    try have hf4h2 := l00In_imp h2.1.2
    try have hf5h2 := l00In_imp h2.2.1
    try have hf6h2 := l00In_imp h2.2.2
    refine run_skip ?_
    refine run_seq ?_
    refine run_seq ?_
    refine run_region (q_assign .n (.c rfl) rfl <|
        Lex.nil) ?_
    refine run_block ?_
    refine run_LOOP (m_spec_l04Ok_b1 m_) _ _ _ rfl (fun (x1 : Int) => 0 ≤ x1 ∧ x1 ≤ (m_.Airways.length : Int)) (fun x1 => 0 ≤ x1 ∧ x1 ≤ (m_.Airways.length : Int) ∧ (m_.Airways.length : Int) ≤ x1) (fun x1 => ((m_.Airways.length : Int) - x1 : Int).toNat) (fun x1 => ⟨[(0, some (true, .rp [.int .i64 m_.Junctions, .sl 7 (m_.Airways.map gAirway.v)])), (3, some (true, .int .i64 x1))], []⟩) (fun x1 => ⟨[(0, some (true, .rp [.int .i64 m_.Junctions, .sl 7 (m_.Airways.map gAirway.v)]))], []⟩) ⟨by first | omega | assumption | (simp only [List.length_append, List.length_cons, List.length_nil, List.length_replicate, put_len] at * <;> omega), by first | omega | assumption | (simp only [List.length_append, List.length_cons, List.length_nil, List.length_replicate, put_len] at * <;> omega)⟩ (by first | omega | assumption | (simp only [List.length_append, List.length_cons, List.length_nil, List.length_replicate, put_len] at * <;> omega)) (sub_of [] ⟨rfl, rfl, trivial⟩ trivial rfl) ?_ ?_
    · intro x1 i7
      obtain ⟨e8, e9, e10⟩ := i7
      try dsimp only at *
      refine run_seq ?_
      refine run_region (q_move .n (.t rfl) rfl <|
          q_nilc_ro .n (.t rfl) rfl <|
          q_fld_ro .n (.t rfl) fo_35_1 rfl <|
          q_ld1_ro .n (.t rfl) rfl ic_33 rfl <|
          q_len .n (.t rfl) rfl len_map ss_33 rfl <|
          q_int .n (.t rfl) (.c rfl) rfl rfl <|
          q_assign .n (.t rfl) rfl <|
          Lex.nil) ?_
      exact run_ret [] (.cons (.t rfl rfl) .nil) rfl trivial rfl
    · intro rec1 k1 hk3 x1 i4
      obtain ⟨e11, e12⟩ := i4
      try dsimp only at *
      refine run_seq ?_
      refine run_seq ?_
      refine run_region (q_move .n (.t rfl) rfl <|
          q_move .n (.t rfl) rfl <|
          q_nilc_ro .n (.t rfl) rfl <|
          q_fld_ro .n (.t rfl) fo_35_1 rfl <|
          q_ld1_ro .n (.t rfl) rfl ic_33 rfl <|
          q_len .n (.t rfl) rfl len_map ss_33 rfl <|
          q_int .n (.t rfl) (.t rfl) rfl rfl <|
          Lex.nil) ?_
      refine run_cond (.t rfl) rfl (fun h5 => ?_) (fun h5 => ?_)
      · try simp only [Bool.and_eq_true, Bool.or_eq_true, Bool.not_eq_true', Bool.and_eq_false_iff, Bool.or_eq_false_iff, Bool.not_eq_false', decide_eq_true_eq, decide_eq_false_iff_not, beq_iff_eq, bne_iff_ne, beq_eq_false_iff_ne, bne_eq_false_iff_eq, Bool.true_and, ne_eq, Decidable.not_not, Int.not_lt, Int.not_le, Nat.not_lt, Nat.not_le, strB_nil, strB_nil', strB_nnil, strB_nnil'] at h5
        refine run_skip ?_
        refine run_seq ?_
        refine run_block ?_
        refine run_seq ?_
        refine run_region (q_move .n (.t rfl) rfl <|
            q_nilc_ro .n (.t rfl) rfl <|
            q_fld_ro .n (.t rfl) fo_35_1 rfl <|
            q_ld1_ro .n (.t rfl) rfl ic_33 rfl <|
            q_move .n (.t rfl) rfl <|
            q_idx_rm .n (.t rfl) (.t rfl) sl_33 (fun _ => by first | omega | assumption | (simp only [List.length_append, List.length_cons, List.length_nil, List.length_replicate, put_len] at * <;> omega)) rfl <|
            q_assign .n (.t rfl) rfl <|
            Lex.nil) ?_
        refine run_seq ?_
        refine run_draw fmo (q_move .n (.t rfl) rfl <|
            q_call0 (full := false) .n .f en_85 (.cons (.t rfl) .nil) (.cons (.b (.a (.same rfl))) .nil) (fun hg => c_spec_l03Ok (at' m_.Airways x1)) rfl (fun h => Bool.noConfusion h) rfl <|
            q_not .n (.t rfl) rfl <|
            q_move .n (.t rfl) rfl <|
            q_move (.f rfl rfl) (.t rfl) rfl <|
            q_move (.f rfl rfl) (.t rfl) rfl <|
            q_nilc_ro (.f rfl rfl) (.u rfl id) rfl <|
            q_fld_ro (.f rfl rfl) (.u rfl id) fo_74_1 rfl <|
            q_ld1_ro (.f rfl rfl) (.u rfl id) rfl ic_2 rfl <|
            q_call0 (full := false) (.f rfl rfl) .f en_86 (.cons (.u rfl id) (.cons (.u rfl id) .nil)) (.cons (.b (.a (.same rfl))) (.cons (.b (.a (.same rfl))) .nil)) (fun hg => c_spec_l04Junction m_ (at' m_.Airways x1).From) rfl (fun h => Bool.noConfusion h) rfl <|
            q_not (.f rfl rfl) (.u rfl id) rfl <|
            q_or .n (.t rfl) (.u rfl id) rfl <|
            q_move .n (.t rfl) rfl <|
            q_move (.f rfl rfl) (.t rfl) rfl <|
            q_move (.f rfl rfl) (.t rfl) rfl <|
            q_nilc_ro (.f rfl rfl) (.u rfl id) rfl <|
            q_fld_ro (.f rfl rfl) (.u rfl id) fo_74_2 rfl <|
            q_ld1_ro (.f rfl rfl) (.u rfl id) rfl ic_2 rfl <|
            q_call0 (full := false) (.f rfl rfl) .f en_86 (.cons (.u rfl id) (.cons (.u rfl id) .nil)) (.cons (.b (.a (.same rfl))) (.cons (.b (.a (.same rfl))) .nil)) (fun hg => c_spec_l04Junction m_ (at' m_.Airways x1).To) rfl (fun h => Bool.noConfusion h) rfl <|
            q_not (.f rfl rfl) (.u rfl id) rfl <|
            q_or .n (.t rfl) (.u rfl id) rfl <|
            q_move .n (.t rfl) rfl <|
            q_move (.f rfl rfl) (.t rfl) rfl <|
            q_int (.f rfl rfl) (.u rfl id) (.c rfl) rfl rfl <|
            q_move (.f rfl rfl) (.u rfl id) rfl <|
            q_move (.t rfl rfl) (.t rfl) rfl <|
            q_nilc_ro (.t rfl rfl) (.u rfl id) rfl <|
            q_fld_ro (.t rfl rfl) (.u rfl id) fo_35_1 rfl <|
            q_ld1_ro (.t rfl rfl) (.u rfl id) rfl ic_33 rfl <|
            q_move (.t rfl rfl) (.t rfl) rfl <|
            q_sub (.t rfl rfl) (.u rfl id) (.c rfl) (fun hg => by simp only [Bool.and_eq_true, Bool.or_eq_true, Bool.not_eq_true', Bool.and_eq_false_iff, Bool.or_eq_false_iff, Bool.not_eq_false', decide_eq_true_eq, decide_eq_false_iff_not, beq_iff_eq, bne_iff_ne, beq_eq_false_iff_ne, bne_eq_false_iff_eq, Bool.true_and, ne_eq, Decidable.not_not, Int.not_lt, Int.not_le, Nat.not_lt, Nat.not_le, strB_nil, strB_nil', strB_nnil, strB_nnil'] at hg; first | omega | assumption | (simp only [List.length_append, List.length_cons, List.length_nil, List.length_replicate, put_len] at * <;> omega)) rfl <|
            q_idx_rm (.t rfl rfl) (.u rfl id) (.u rfl id) sl_33 (fun hg => by simp only [Bool.and_eq_true, Bool.or_eq_true, Bool.not_eq_true', Bool.and_eq_false_iff, Bool.or_eq_false_iff, Bool.not_eq_false', decide_eq_true_eq, decide_eq_false_iff_not, beq_iff_eq, bne_iff_ne, beq_eq_false_iff_ne, bne_eq_false_iff_eq, Bool.true_and, ne_eq, Decidable.not_not, Int.not_lt, Int.not_le, Nat.not_lt, Nat.not_le, strB_nil, strB_nil', strB_nnil, strB_nnil'] at hg; first | omega | assumption | (simp only [List.length_append, List.length_cons, List.length_nil, List.length_replicate, put_len] at * <;> omega)) rfl <|
            q_fld_ro (.t rfl rfl) (.u rfl id) fo_74_0 rfl <|
            q_ld1_ro (.t rfl rfl) (.u rfl id) rfl ic_9 rfl <|
            q_move (.t rfl rfl) (.t rfl) rfl <|
            q_nilc_ro (.t rfl rfl) (.u rfl id) rfl <|
            q_fld_ro (.t rfl rfl) (.u rfl id) fo_74_0 rfl <|
            q_ld1_ro (.t rfl rfl) (.u rfl id) rfl ic_9 rfl <|
            q_strcmp (.t rfl rfl) (.u rfl id) (.u rfl id) rfl rfl <|
            q_and (.f rfl rfl) (.u rfl id) (.u rfl id) rfl <|
            q_or .n (.t rfl) (.u rfl id) rfl <|
            Lex.nil) (by kernel_rfl) ?_
        refine run_cond (.t rfl) rfl (fun h6 => ?_) (fun h6 => ?_)
        · try simp only [Bool.and_eq_true, Bool.or_eq_true, Bool.not_eq_true', Bool.and_eq_false_iff, Bool.or_eq_false_iff, Bool.not_eq_false', decide_eq_true_eq, decide_eq_false_iff_not, beq_iff_eq, bne_iff_ne, beq_eq_false_iff_ne, bne_eq_false_iff_eq, Bool.true_and, ne_eq, Decidable.not_not, Int.not_lt, Int.not_le, Nat.not_lt, Nat.not_le, strB_nil, strB_nil', strB_nnil, strB_nnil'] at h6
          refine run_seq ?_
          refine run_region (q_assign .n (.c rfl) rfl <|
              Lex.nil) ?_
          exact run_ret [] (.cons (.t rfl rfl) .nil) rfl trivial rfl
        · try simp only [Bool.and_eq_true, Bool.or_eq_true, Bool.not_eq_true', Bool.and_eq_false_iff, Bool.or_eq_false_iff, Bool.not_eq_false', decide_eq_true_eq, decide_eq_false_iff_not, beq_iff_eq, bne_iff_ne, beq_eq_false_iff_ne, bne_eq_false_iff_eq, Bool.true_and, ne_eq, Decidable.not_not, Int.not_lt, Int.not_le, Nat.not_lt, Nat.not_le, strB_nil, strB_nil', strB_nnil, strB_nnil'] at h6
          refine run_skip ?_
          refine run_endB ?_
          refine run_region (q_move .n (.t rfl) rfl <|
              q_add .n (.t rfl) (.c rfl) (fun _ => by first | omega | assumption | (simp only [List.length_append, List.length_cons, List.length_nil, List.length_replicate, put_len] at * <;> omega)) rfl <|
              q_assign .n (.t rfl) rfl <|
              Lex.nil) ?_
          exact run_again (x1 + 1) ⟨by first | omega | assumption | (simp only [List.length_append, List.length_cons, List.length_nil, List.length_replicate, put_len] at * <;> omega), by first | omega | assumption | (simp only [List.length_append, List.length_cons, List.length_nil, List.length_replicate, put_len] at * <;> omega)⟩ (by first | omega | assumption | (simp only [List.length_append, List.length_cons, List.length_nil, List.length_replicate, put_len] at * <;> omega)) (sub_of [] ⟨rfl, rfl, trivial⟩ trivial rfl)
      · try simp only [Bool.and_eq_true, Bool.or_eq_true, Bool.not_eq_true', Bool.and_eq_false_iff, Bool.or_eq_false_iff, Bool.not_eq_false', decide_eq_true_eq, decide_eq_false_iff_not, beq_iff_eq, bne_iff_ne, beq_eq_false_iff_ne, bne_eq_false_iff_eq, Bool.true_and, ne_eq, Decidable.not_not, Int.not_lt, Int.not_le, Nat.not_lt, Nat.not_le, strB_nil, strB_nil', strB_nnil, strB_nnil'] at h5
        refine run_exit rfl ?_
        exact run_cont hk3 x1 ⟨by first | omega | assumption | (simp only [List.length_append, List.length_cons, List.length_nil, List.length_replicate, put_len] at * <;> omega), by first | omega | assumption | (simp only [List.length_append, List.length_cons, List.length_nil, List.length_replicate, put_len] at * <;> omega), by first | omega | assumption | (simp only [List.length_append, List.length_cons, List.length_nil, List.length_replicate, put_len] at * <;> omega)⟩ (sub_of [] ⟨rfl, trivial⟩ trivial rfl)

/-! ### spec_l26Ok -/
theorem c_spec_l26Ok (m_ : gMine) (list : List gPermit) : Con Try.prog 30 [.rp [.int .i64 m_.Junctions, .sl 7 (m_.Airways.map gAirway.v)], .sl 5 (list.map gPermit.v)] [] (.bool (m_spec_l26Ok m_ list)) ([]) := by
  refine con_intro (out := fun r : Bool => ((.bool r : V), ([] : List (Nat × Option O)))) (r := (m_spec_l26Ok m_ list)) Try.func30 rfl Try.ntmps30 rfl ?_
  refine run_factP (t := 0) 1 rfl rfl fun hl => ?_
  have l1 := hl; clear hl; simp only [List.length_map] at l1
  refine run_fact (t := 1) rfl fun hl => ?_
  have l2 := hl; clear hl; simp only [List.length_map] at l2
  refine run_seq ?_
  refine run_region (q_assign .n (.c rfl) rfl <|
      Lex.nil) ?_
  refine run_seq ?_
  refine run_seq ?_
  refine run_region (q_move .n (.t rfl) rfl <|
      q_call0 (full := false) .n .f en_60 (.cons (.t rfl) .nil) (.cons (.b (.a (.same rfl))) .nil) (fun hg => c_spec_l04Ok m_) rfl (fun h => Bool.noConfusion h) rfl <|
      q_not .n (.t rfl) rfl <|
      q_move .n (.t rfl) rfl <|
      q_move (.f rfl rfl) (.t rfl) rfl <|
      q_len (.f rfl rfl) (.u rfl id) rfl len_map ss_37 rfl <|
      q_int (.f rfl rfl) (.u rfl id) (.c rfl) rfl rfl <|
      q_or .n (.t rfl) (.u rfl id) rfl <|
      Lex.nil) ?_
  refine run_cond (.t rfl) rfl (fun h3 => ?_) (fun h3 => ?_)
  · try simp only [Bool.and_eq_true, Bool.or_eq_true, Bool.not_eq_true', Bool.and_eq_false_iff, Bool.or_eq_false_iff, Bool.not_eq_false', decide_eq_true_eq, decide_eq_false_iff_not, beq_iff_eq, bne_iff_ne, beq_eq_false_iff_ne, bne_eq_false_iff_eq, Bool.true_and, ne_eq, Decidable.not_not, Int.not_lt, Int.not_le, Nat.not_lt, Nat.not_le, strB_nil, strB_nil', strB_nnil, strB_nnil'] at h3
    try have hf0h3 := l04Ok_imp h3
    try have hf1h3 := l04Ok_imp h3.1
    try have hf2h3 := l04Ok_imp h3.2
    try have hf3h3 := l04Ok_imp h3.1.1
    try have hf4h3 := l04Ok_imp h3.1.2
    try have hf5h3 := l04Ok_imp h3.2.1
    try have hf6h3 := l04Ok_imp h3.2.2
    refine run_seq ?_
    refine run_region (q_assign .n (.c rfl) rfl <|
        Lex.nil) ?_
    exact run_ret [] (.cons (.t rfl rfl) .nil) rfl trivial rfl
  · try simp only [Bool.and_eq_true, Bool.or_eq_true, Bool.not_eq_true', Bool.and_eq_false_iff, Bool.or_eq_false_iff, Bool.not_eq_false', decide_eq_true_eq, decide_eq_false_iff_not, beq_iff_eq, bne_iff_ne, beq_eq_false_iff_ne, bne_eq_false_iff_eq, Bool.true_and, ne_eq, Decidable.not_not, Int.not_lt, Int.not_le, Nat.not_lt, Nat.not_le, strB_nil, strB_nil', strB_nnil, strB_nnil'] at h3
    try have hf0h3 := l04Ok_imp h3
    try have hf1h3 := l04Ok_imp h3.1
    try have hf2h3 := l04Ok_imp h3.2
    try have hf3h3 := l04Ok_imp h3.1.1
    try have hf4h3 := l04Ok_imp h3.1.2
    try have hf5h3 := l04Ok_imp h3.2.1
    try have hf6h3 := l04Ok_imp h3.2.2
    refine run_skip ?_
    refine run_seq ?_
    refine run_seq ?_
    refine run_region (q_assign .n (.c rfl) rfl <|
        Lex.nil) ?_
    refine run_block ?_
    refine run_LOOP (m_spec_l26Ok_b1 m_ list) _ _ _ rfl (fun (x1 : Int) => 0 ≤ x1 ∧ x1 ≤ (list.length : Int)) (fun x1 => 0 ≤ x1 ∧ x1 ≤ (list.length : Int) ∧ (list.length : Int) ≤ x1) (fun x1 => ((list.length : Int) - x1 : Int).toNat) (fun x1 => ⟨[(0, some (true, .rp [.int .i64 m_.Junctions, .sl 7 (m_.Airways.map gAirway.v)])), (1, some (true, .sl 5 (list.map gPermit.v))), (5, some (true, .int .i64 x1))], []⟩) (fun x1 => ⟨[], []⟩) ⟨by first | omega | assumption | (simp only [List.length_append, List.length_cons, List.length_nil, List.length_replicate, put_len] at * <;> omega), by first | omega | assumption | (simp only [List.length_append, List.length_cons, List.length_nil, List.length_replicate, put_len] at * <;> omega)⟩ (by first | omega | assumption | (simp only [List.length_append, List.length_cons, List.length_nil, List.length_replicate, put_len] at * <;> omega)) (sub_of [] ⟨rfl, rfl, rfl, trivial⟩ trivial rfl) ?_ ?_
    · intro x1 i8
      obtain ⟨e9, e10, e11⟩ := i8
      try dsimp only at *
      refine run_seq ?_
      refine run_region (q_assign .n (.c rfl) rfl <|
          Lex.nil) ?_
      exact run_ret [] (.cons (.t rfl rfl) .nil) rfl trivial rfl
    · intro rec1 k1 hk4 x1 i5
      obtain ⟨e12, e13⟩ := i5
      try dsimp only at *
      refine run_seq ?_
      refine run_seq ?_
      refine run_region (q_move .n (.t rfl) rfl <|
          q_move .n (.t rfl) rfl <|
          q_len .n (.t rfl) rfl len_map ss_37 rfl <|
          q_int .n (.t rfl) (.t rfl) rfl rfl <|
          Lex.nil) ?_
      refine run_cond (.t rfl) rfl (fun h6 => ?_) (fun h6 => ?_)
      · try simp only [Bool.and_eq_true, Bool.or_eq_true, Bool.not_eq_true', Bool.and_eq_false_iff, Bool.or_eq_false_iff, Bool.not_eq_false', decide_eq_true_eq, decide_eq_false_iff_not, beq_iff_eq, bne_iff_ne, beq_eq_false_iff_ne, bne_eq_false_iff_eq, Bool.true_and, ne_eq, Decidable.not_not, Int.not_lt, Int.not_le, Nat.not_lt, Nat.not_le, strB_nil, strB_nil', strB_nnil, strB_nnil'] at h6
        refine run_skip ?_
        refine run_seq ?_
        refine run_block ?_
        refine run_seq ?_
        refine run_draw fmo (q_move .n (.t rfl) rfl <|
            q_move .n (.t rfl) rfl <|
            q_idx_rm .n (.t rfl) (.t rfl) sl_37 (fun _ => by first | omega | assumption | (simp only [List.length_append, List.length_cons, List.length_nil, List.length_replicate, put_len] at * <;> omega)) rfl <|
            q_call0 (full := false) .n .f en_31 (.cons (.t rfl) .nil) (.cons (.b (.a (.same rfl))) .nil) (fun hg => c_spec_l26One (at' list x1)) rfl (fun h => Bool.noConfusion h) rfl <|
            q_not .n (.t rfl) rfl <|
            q_move .n (.t rfl) rfl <|
            q_move (.f rfl rfl) (.t rfl) rfl <|
            q_move (.f rfl rfl) (.t rfl) rfl <|
            q_idx_rm (.f rfl rfl) (.u rfl id) (.u rfl id) sl_37 (fun hg => by simp only [Bool.and_eq_true, Bool.or_eq_true, Bool.not_eq_true', Bool.and_eq_false_iff, Bool.or_eq_false_iff, Bool.not_eq_false', decide_eq_true_eq, decide_eq_false_iff_not, beq_iff_eq, bne_iff_ne, beq_eq_false_iff_ne, bne_eq_false_iff_eq, Bool.true_and, ne_eq, Decidable.not_not, Int.not_lt, Int.not_le, Nat.not_lt, Nat.not_le, strB_nil, strB_nil', strB_nnil, strB_nnil'] at hg; first | omega | assumption | (simp only [List.length_append, List.length_cons, List.length_nil, List.length_replicate, put_len] at * <;> omega)) rfl <|
            q_fld_ro (.f rfl rfl) (.u rfl id) fo_39_2 rfl <|
            q_ld1_ro (.f rfl rfl) (.u rfl id) rfl ic_2 rfl <|
            q_move (.f rfl rfl) (.t rfl) rfl <|
            q_nilc_ro (.f rfl rfl) (.u rfl id) rfl <|
            q_fld_ro (.f rfl rfl) (.u rfl id) fo_35_1 rfl <|
            q_ld1_ro (.f rfl rfl) (.u rfl id) rfl ic_33 rfl <|
            q_len (.f rfl rfl) (.u rfl id) rfl len_map ss_33 rfl <|
            q_int (.f rfl rfl) (.u rfl id) (.u rfl id) rfl rfl <|
            q_or .n (.t rfl) (.u rfl id) rfl <|
            q_move .n (.t rfl) rfl <|
            q_move (.f rfl rfl) (.t rfl) rfl <|
            q_int (.f rfl rfl) (.u rfl id) (.c rfl) rfl rfl <|
            q_move (.f rfl rfl) (.u rfl id) rfl <|
            q_move (.t rfl rfl) (.t rfl) rfl <|
            q_move (.t rfl rfl) (.t rfl) rfl <|
            q_sub (.t rfl rfl) (.u rfl id) (.c rfl) (fun hg => by simp only [Bool.and_eq_true, Bool.or_eq_true, Bool.not_eq_true', Bool.and_eq_false_iff, Bool.or_eq_false_iff, Bool.not_eq_false', decide_eq_true_eq, decide_eq_false_iff_not, beq_iff_eq, bne_iff_ne, beq_eq_false_iff_ne, bne_eq_false_iff_eq, Bool.true_and, ne_eq, Decidable.not_not, Int.not_lt, Int.not_le, Nat.not_lt, Nat.not_le, strB_nil, strB_nil', strB_nnil, strB_nnil'] at hg; first | omega | assumption | (simp only [List.length_append, List.length_cons, List.length_nil, List.length_replicate, put_len] at * <;> omega)) rfl <|
            q_idx_rm (.t rfl rfl) (.u rfl id) (.u rfl id) sl_37 (fun hg => by simp only [Bool.and_eq_true, Bool.or_eq_true, Bool.not_eq_true', Bool.and_eq_false_iff, Bool.or_eq_false_iff, Bool.not_eq_false', decide_eq_true_eq, decide_eq_false_iff_not, beq_iff_eq, bne_iff_ne, beq_eq_false_iff_ne, bne_eq_false_iff_eq, Bool.true_and, ne_eq, Decidable.not_not, Int.not_lt, Int.not_le, Nat.not_lt, Nat.not_le, strB_nil, strB_nil', strB_nnil, strB_nnil'] at hg; first | omega | assumption | (simp only [List.length_append, List.length_cons, List.length_nil, List.length_replicate, put_len] at * <;> omega)) rfl <|
            q_fld_ro (.t rfl rfl) (.u rfl id) fo_39_0 rfl <|
            q_ld1_ro (.t rfl rfl) (.u rfl id) rfl ic_9 rfl <|
            q_move (.t rfl rfl) (.t rfl) rfl <|
            q_move (.t rfl rfl) (.t rfl) rfl <|
            q_idx_rm (.t rfl rfl) (.u rfl id) (.u rfl id) sl_37 (fun hg => by simp only [Bool.and_eq_true, Bool.or_eq_true, Bool.not_eq_true', Bool.and_eq_false_iff, Bool.or_eq_false_iff, Bool.not_eq_false', decide_eq_true_eq, decide_eq_false_iff_not, beq_iff_eq, bne_iff_ne, beq_eq_false_iff_ne, bne_eq_false_iff_eq, Bool.true_and, ne_eq, Decidable.not_not, Int.not_lt, Int.not_le, Nat.not_lt, Nat.not_le, strB_nil, strB_nil', strB_nnil, strB_nnil'] at hg; first | omega | assumption | (simp only [List.length_append, List.length_cons, List.length_nil, List.length_replicate, put_len] at * <;> omega)) rfl <|
            q_fld_ro (.t rfl rfl) (.u rfl id) fo_39_0 rfl <|
            q_ld1_ro (.t rfl rfl) (.u rfl id) rfl ic_9 rfl <|
            q_strcmp (.t rfl rfl) (.u rfl id) (.u rfl id) rfl rfl <|
            q_and (.f rfl rfl) (.u rfl id) (.u rfl id) rfl <|
            q_or .n (.t rfl) (.u rfl id) rfl <|
            Lex.nil) (by kernel_rfl) ?_
        refine run_cond (.t rfl) rfl (fun h7 => ?_) (fun h7 => ?_)
        · try simp only [Bool.and_eq_true, Bool.or_eq_true, Bool.not_eq_true', Bool.and_eq_false_iff, Bool.or_eq_false_iff, Bool.not_eq_false', decide_eq_true_eq, decide_eq_false_iff_not, beq_iff_eq, bne_iff_ne, beq_eq_false_iff_ne, bne_eq_false_iff_eq, Bool.true_and, ne_eq, Decidable.not_not, Int.not_lt, Int.not_le, Nat.not_lt, Nat.not_le, strB_nil, strB_nil', strB_nnil, strB_nnil'] at h7
          try have hf0h7 := one_imp h7
          try have hf1h7 := one_imp h7.1
          try have hf2h7 := one_imp h7.2
          try have hf3h7 := one_imp h7.1.1
          try have hf4h7 := one_imp h7.1.2
          try have hf5h7 := one_imp h7.2.1
          try have hf6h7 := one_imp h7.2.2
          refine run_seq ?_
          refine run_region (q_assign .n (.c rfl) rfl <|
              Lex.nil) ?_
          exact run_ret [] (.cons (.t rfl rfl) .nil) rfl trivial rfl
        · try simp only [Bool.and_eq_true, Bool.or_eq_true, Bool.not_eq_true', Bool.and_eq_false_iff, Bool.or_eq_false_iff, Bool.not_eq_false', decide_eq_true_eq, decide_eq_false_iff_not, beq_iff_eq, bne_iff_ne, beq_eq_false_iff_ne, bne_eq_false_iff_eq, Bool.true_and, ne_eq, Decidable.not_not, Int.not_lt, Int.not_le, Nat.not_lt, Nat.not_le, strB_nil, strB_nil', strB_nnil, strB_nnil'] at h7
          try have hf0h7 := one_imp h7
          try have hf1h7 := one_imp h7.1
          try have hf2h7 := one_imp h7.2
          try have hf3h7 := one_imp h7.1.1
          try have hf4h7 := one_imp h7.1.2
          try have hf5h7 := one_imp h7.2.1
          try have hf6h7 := one_imp h7.2.2
          refine run_skip ?_
          refine run_endB ?_
          refine run_region (q_move .n (.t rfl) rfl <|
              q_add .n (.t rfl) (.c rfl) (fun _ => by first | omega | assumption | (simp only [List.length_append, List.length_cons, List.length_nil, List.length_replicate, put_len] at * <;> omega)) rfl <|
              q_assign .n (.t rfl) rfl <|
              Lex.nil) ?_
          exact run_again (x1 + 1) ⟨by first | omega | assumption | (simp only [List.length_append, List.length_cons, List.length_nil, List.length_replicate, put_len] at * <;> omega), by first | omega | assumption | (simp only [List.length_append, List.length_cons, List.length_nil, List.length_replicate, put_len] at * <;> omega)⟩ (by first | omega | assumption | (simp only [List.length_append, List.length_cons, List.length_nil, List.length_replicate, put_len] at * <;> omega)) (sub_of [] ⟨rfl, rfl, rfl, trivial⟩ trivial rfl)
      · try simp only [Bool.and_eq_true, Bool.or_eq_true, Bool.not_eq_true', Bool.and_eq_false_iff, Bool.or_eq_false_iff, Bool.not_eq_false', decide_eq_true_eq, decide_eq_false_iff_not, beq_iff_eq, bne_iff_ne, beq_eq_false_iff_ne, bne_eq_false_iff_eq, Bool.true_and, ne_eq, Decidable.not_not, Int.not_lt, Int.not_le, Nat.not_lt, Nat.not_le, strB_nil, strB_nil', strB_nnil, strB_nnil'] at h6
        refine run_exit rfl ?_
        exact run_cont hk4 x1 ⟨by first | omega | assumption | (simp only [List.length_append, List.length_cons, List.length_nil, List.length_replicate, put_len] at * <;> omega), by first | omega | assumption | (simp only [List.length_append, List.length_cons, List.length_nil, List.length_replicate, put_len] at * <;> omega), by first | omega | assumption | (simp only [List.length_append, List.length_cons, List.length_nil, List.length_replicate, put_len] at * <;> omega)⟩ (sub_of [] trivial trivial rfl)

/-! ### spec_l26Kinds -/
theorem c_spec_l26Kinds (a : Int) (b : Int) (same : Bool) : Con Try.prog 64 [.int .i64 a, .int .i64 b, .bool same] [] (.bool (m_spec_l26Kinds a b same)) ([]) := by
  refine con_intro (out := fun r : Bool => ((.bool r : V), ([] : List (Nat × Option O)))) (r := (m_spec_l26Kinds a b same)) Try.func64 rfl Try.ntmps64 rfl ?_
  refine run_seq ?_
  refine run_region (q_assign .n (.c rfl) rfl <|
      Lex.nil) ?_
  refine run_seq ?_
  refine run_seq ?_
  refine run_region (q_move .n (.t rfl) rfl <|
      q_int .n (.t rfl) (.c rfl) rfl rfl <|
      Lex.nil) ?_
  refine run_cond (.t rfl) rfl (fun h1 => ?_) (fun h1 => ?_)
  · try simp only [Bool.and_eq_true, Bool.or_eq_true, Bool.not_eq_true', Bool.and_eq_false_iff, Bool.or_eq_false_iff, Bool.not_eq_false', decide_eq_true_eq, decide_eq_false_iff_not, beq_iff_eq, bne_iff_ne, beq_eq_false_iff_ne, bne_eq_false_iff_eq, Bool.true_and, ne_eq, Decidable.not_not, Int.not_lt, Int.not_le, Nat.not_lt, Nat.not_le, strB_nil, strB_nil', strB_nnil, strB_nnil'] at h1
    refine run_seq ?_
    refine run_region (q_assign .n (.c rfl) rfl <|
        Lex.nil) ?_
    exact run_ret [] (.cons (.t rfl rfl) .nil) rfl trivial rfl
  · try simp only [Bool.and_eq_true, Bool.or_eq_true, Bool.not_eq_true', Bool.and_eq_false_iff, Bool.or_eq_false_iff, Bool.not_eq_false', decide_eq_true_eq, decide_eq_false_iff_not, beq_iff_eq, bne_iff_ne, beq_eq_false_iff_ne, bne_eq_false_iff_eq, Bool.true_and, ne_eq, Decidable.not_not, Int.not_lt, Int.not_le, Nat.not_lt, Nat.not_le, strB_nil, strB_nil', strB_nnil, strB_nnil'] at h1
    refine run_skip ?_
    refine run_seq ?_
    refine run_seq ?_
    refine run_region (q_move .n (.t rfl) rfl <|
        q_int .n (.t rfl) (.c rfl) rfl rfl <|
        Lex.nil) ?_
    refine run_cond (.t rfl) rfl (fun h2 => ?_) (fun h2 => ?_)
    · try simp only [Bool.and_eq_true, Bool.or_eq_true, Bool.not_eq_true', Bool.and_eq_false_iff, Bool.or_eq_false_iff, Bool.not_eq_false', decide_eq_true_eq, decide_eq_false_iff_not, beq_iff_eq, bne_iff_ne, beq_eq_false_iff_ne, bne_eq_false_iff_eq, Bool.true_and, ne_eq, Decidable.not_not, Int.not_lt, Int.not_le, Nat.not_lt, Nat.not_le, strB_nil, strB_nil', strB_nnil, strB_nnil'] at h2
      refine run_seq ?_
      refine run_region (q_move .n (.t rfl) rfl <|
          q_int .n (.t rfl) (.c rfl) rfl rfl <|
          q_move .n (.t rfl) rfl <|
          q_move (.f rfl rfl) (.t rfl) rfl <|
          q_or .n (.t rfl) (.u rfl id) rfl <|
          q_assign .n (.t rfl) rfl <|
          Lex.nil) ?_
      exact run_ret [] (.cons (.t rfl rfl) .nil) rfl trivial rfl
    · try simp only [Bool.and_eq_true, Bool.or_eq_true, Bool.not_eq_true', Bool.and_eq_false_iff, Bool.or_eq_false_iff, Bool.not_eq_false', decide_eq_true_eq, decide_eq_false_iff_not, beq_iff_eq, bne_iff_ne, beq_eq_false_iff_ne, bne_eq_false_iff_eq, Bool.true_and, ne_eq, Decidable.not_not, Int.not_lt, Int.not_le, Nat.not_lt, Nat.not_le, strB_nil, strB_nil', strB_nnil, strB_nnil'] at h2
      refine run_skip ?_
      refine run_seq ?_
      refine run_region (q_move .n (.t rfl) rfl <|
          q_int .n (.t rfl) (.c rfl) rfl rfl <|
          q_move .n (.t rfl) rfl <|
          q_move (.t rfl rfl) (.t rfl) rfl <|
          q_int (.t rfl rfl) (.u rfl id) (.c rfl) rfl rfl <|
          q_and .n (.t rfl) (.u rfl id) rfl <|
          q_move .n (.t rfl) rfl <|
          q_move (.t rfl rfl) (.t rfl) rfl <|
          q_and .n (.t rfl) (.u rfl id) rfl <|
          q_assign .n (.t rfl) rfl <|
          Lex.nil) ?_
      exact run_ret [] (.cons (.t rfl rfl) .nil) rfl trivial rfl

/-! ### spec_l00Min -/
theorem c_spec_l00Min (a : Int) (b : Int) : Con Try.prog 65 [.int .i64 a, .int .i64 b] [] (.int .i64 (m_spec_l00Min a b)) ([]) := by
  refine con_intro (out := fun r : Int => ((.int .i64 r : V), ([] : List (Nat × Option O)))) (r := (m_spec_l00Min a b)) Try.func65 rfl Try.ntmps65 rfl ?_
  refine run_seq ?_
  refine run_region (q_assign .n (.c rfl) rfl <|
      Lex.nil) ?_
  refine run_seq ?_
  refine run_seq ?_
  refine run_region (q_move .n (.t rfl) rfl <|
      q_move .n (.t rfl) rfl <|
      q_int .n (.t rfl) (.t rfl) rfl rfl <|
      Lex.nil) ?_
  refine run_cond (.t rfl) rfl (fun h1 => ?_) (fun h1 => ?_)
  · try simp only [Bool.and_eq_true, Bool.or_eq_true, Bool.not_eq_true', Bool.and_eq_false_iff, Bool.or_eq_false_iff, Bool.not_eq_false', decide_eq_true_eq, decide_eq_false_iff_not, beq_iff_eq, bne_iff_ne, beq_eq_false_iff_ne, bne_eq_false_iff_eq, Bool.true_and, ne_eq, Decidable.not_not, Int.not_lt, Int.not_le, Nat.not_lt, Nat.not_le, strB_nil, strB_nil', strB_nnil, strB_nnil'] at h1
    refine run_seq ?_
    refine run_region (q_move .n (.t rfl) rfl <|
        q_assign .n (.t rfl) rfl <|
        Lex.nil) ?_
    exact run_ret [] (.cons (.t rfl rfl) .nil) rfl trivial rfl
  · try simp only [Bool.and_eq_true, Bool.or_eq_true, Bool.not_eq_true', Bool.and_eq_false_iff, Bool.or_eq_false_iff, Bool.not_eq_false', decide_eq_true_eq, decide_eq_false_iff_not, beq_iff_eq, bne_iff_ne, beq_eq_false_iff_ne, bne_eq_false_iff_eq, Bool.true_and, ne_eq, Decidable.not_not, Int.not_lt, Int.not_le, Nat.not_lt, Nat.not_le, strB_nil, strB_nil', strB_nnil, strB_nnil'] at h1
    refine run_skip ?_
    refine run_seq ?_
    refine run_region (q_move .n (.t rfl) rfl <|
        q_assign .n (.t rfl) rfl <|
        Lex.nil) ?_
    exact run_ret [] (.cons (.t rfl rfl) .nil) rfl trivial rfl

/-! ### spec_l00Max -/
theorem c_spec_l00Max (a : Int) (b : Int) : Con Try.prog 66 [.int .i64 a, .int .i64 b] [] (.int .i64 (m_spec_l00Max a b)) ([]) := by
  refine con_intro (out := fun r : Int => ((.int .i64 r : V), ([] : List (Nat × Option O)))) (r := (m_spec_l00Max a b)) Try.func66 rfl Try.ntmps66 rfl ?_
  refine run_seq ?_
  refine run_region (q_assign .n (.c rfl) rfl <|
      Lex.nil) ?_
  refine run_seq ?_
  refine run_seq ?_
  refine run_region (q_move .n (.t rfl) rfl <|
      q_move .n (.t rfl) rfl <|
      q_int .n (.t rfl) (.t rfl) rfl rfl <|
      Lex.nil) ?_
  refine run_cond (.t rfl) rfl (fun h1 => ?_) (fun h1 => ?_)
  · try simp only [Bool.and_eq_true, Bool.or_eq_true, Bool.not_eq_true', Bool.and_eq_false_iff, Bool.or_eq_false_iff, Bool.not_eq_false', decide_eq_true_eq, decide_eq_false_iff_not, beq_iff_eq, bne_iff_ne, beq_eq_false_iff_ne, bne_eq_false_iff_eq, Bool.true_and, ne_eq, Decidable.not_not, Int.not_lt, Int.not_le, Nat.not_lt, Nat.not_le, strB_nil, strB_nil', strB_nnil, strB_nnil'] at h1
    refine run_seq ?_
    refine run_region (q_move .n (.t rfl) rfl <|
        q_assign .n (.t rfl) rfl <|
        Lex.nil) ?_
    exact run_ret [] (.cons (.t rfl rfl) .nil) rfl trivial rfl
  · try simp only [Bool.and_eq_true, Bool.or_eq_true, Bool.not_eq_true', Bool.and_eq_false_iff, Bool.or_eq_false_iff, Bool.not_eq_false', decide_eq_true_eq, decide_eq_false_iff_not, beq_iff_eq, bne_iff_ne, beq_eq_false_iff_ne, bne_eq_false_iff_eq, Bool.true_and, ne_eq, Decidable.not_not, Int.not_lt, Int.not_le, Nat.not_lt, Nat.not_le, strB_nil, strB_nil', strB_nnil, strB_nnil'] at h1
    refine run_skip ?_
    refine run_seq ?_
    refine run_region (q_move .n (.t rfl) rfl <|
        q_assign .n (.t rfl) rfl <|
        Lex.nil) ?_
    exact run_ret [] (.cons (.t rfl rfl) .nil) rfl trivial rfl

/-! ### spec_l26Clash -/
theorem c_spec_l26Clash (m_ : gMine) (x_ : gPermit) (y : gPermit) (hp1 : 0 ≤ x_.Airway ∧ x_.Airway < m_.Airways.length) (hp2 : 0 ≤ y.Airway ∧ y.Airway < m_.Airways.length) : Con Try.prog 32 [.rp [.int .i64 m_.Junctions, .sl 7 (m_.Airways.map gAirway.v)], .rp [.str x_.Id, .int .i64 x_.Kind, .int .i64 x_.Airway, .int .i64 x_.From, .int .i64 x_.Until], .rp [.str y.Id, .int .i64 y.Kind, .int .i64 y.Airway, .int .i64 y.From, .int .i64 y.Until]] [] (.bool (m_spec_l26Clash m_ x_ y)) ([]) := by
  refine con_intro (out := fun r : Bool => ((.bool r : V), ([] : List (Nat × Option O)))) (r := (m_spec_l26Clash m_ x_ y)) Try.func32 rfl Try.ntmps32 rfl ?_
  refine run_factP (t := 0) 1 rfl rfl fun hl => ?_
  have l1 := hl; clear hl; simp only [List.length_map] at l1
  refine run_seq ?_
  refine run_region (q_assign .n (.c rfl) rfl <|
      Lex.nil) ?_
  refine run_seq ?_
  refine run_seq ?_
  refine run_draw fmo (q_move .n (.t rfl) rfl <|
      q_nilc_ro .n (.t rfl) rfl <|
      q_fld_ro .n (.t rfl) fo_39_3 rfl <|
      q_ld1_ro .n (.t rfl) rfl ic_2 rfl <|
      q_move .n (.t rfl) rfl <|
      q_nilc_ro .n (.t rfl) rfl <|
      q_fld_ro .n (.t rfl) fo_39_4 rfl <|
      q_ld1_ro .n (.t rfl) rfl ic_2 rfl <|
      q_int .n (.t rfl) (.t rfl) rfl rfl <|
      q_move .n (.t rfl) rfl <|
      q_move (.f rfl rfl) (.t rfl) rfl <|
      q_nilc_ro (.f rfl rfl) (.u rfl id) rfl <|
      q_fld_ro (.f rfl rfl) (.u rfl id) fo_39_3 rfl <|
      q_ld1_ro (.f rfl rfl) (.u rfl id) rfl ic_2 rfl <|
      q_move (.f rfl rfl) (.t rfl) rfl <|
      q_nilc_ro (.f rfl rfl) (.u rfl id) rfl <|
      q_fld_ro (.f rfl rfl) (.u rfl id) fo_39_4 rfl <|
      q_ld1_ro (.f rfl rfl) (.u rfl id) rfl ic_2 rfl <|
      q_int (.f rfl rfl) (.u rfl id) (.u rfl id) rfl rfl <|
      q_or .n (.t rfl) (.u rfl id) rfl <|
      Lex.nil) (by kernel_rfl) ?_
  refine run_cond (.t rfl) rfl (fun h2 => ?_) (fun h2 => ?_)
  · try simp only [Bool.and_eq_true, Bool.or_eq_true, Bool.not_eq_true', Bool.and_eq_false_iff, Bool.or_eq_false_iff, Bool.not_eq_false', decide_eq_true_eq, decide_eq_false_iff_not, beq_iff_eq, bne_iff_ne, beq_eq_false_iff_ne, bne_eq_false_iff_eq, Bool.true_and, ne_eq, Decidable.not_not, Int.not_lt, Int.not_le, Nat.not_lt, Nat.not_le, strB_nil, strB_nil', strB_nnil, strB_nnil'] at h2
    refine run_seq ?_
    refine run_region (q_assign .n (.c rfl) rfl <|
        Lex.nil) ?_
    exact run_ret [] (.cons (.t rfl rfl) .nil) rfl trivial rfl
  · try simp only [Bool.and_eq_true, Bool.or_eq_true, Bool.not_eq_true', Bool.and_eq_false_iff, Bool.or_eq_false_iff, Bool.not_eq_false', decide_eq_true_eq, decide_eq_false_iff_not, beq_iff_eq, bne_iff_ne, beq_eq_false_iff_ne, bne_eq_false_iff_eq, Bool.true_and, ne_eq, Decidable.not_not, Int.not_lt, Int.not_le, Nat.not_lt, Nat.not_le, strB_nil, strB_nil', strB_nnil, strB_nnil'] at h2
    refine run_skip ?_
    refine run_seq ?_
    refine run_draw fmo (q_move .n (.t rfl) rfl <|
        q_nilc_ro .n (.t rfl) rfl <|
        q_fld_ro .n (.t rfl) fo_35_1 rfl <|
        q_ld1_ro .n (.t rfl) rfl ic_33 rfl <|
        q_move .n (.t rfl) rfl <|
        q_nilc_ro .n (.t rfl) rfl <|
        q_fld_ro .n (.t rfl) fo_39_2 rfl <|
        q_ld1_ro .n (.t rfl) rfl ic_2 rfl <|
        q_idx_rm .n (.t rfl) (.t rfl) sl_33 (fun _ => by first | omega | assumption | (simp only [List.length_append, List.length_cons, List.length_nil, List.length_replicate, put_len] at * <;> omega)) rfl <|
        q_assign .n (.t rfl) rfl <|
        Lex.nil) (by kernel_rfl) ?_
    refine run_seq ?_
    refine run_draw fmo (q_move .n (.t rfl) rfl <|
        q_nilc_ro .n (.t rfl) rfl <|
        q_fld_ro .n (.t rfl) fo_35_1 rfl <|
        q_ld1_ro .n (.t rfl) rfl ic_33 rfl <|
        q_move .n (.t rfl) rfl <|
        q_nilc_ro .n (.t rfl) rfl <|
        q_fld_ro .n (.t rfl) fo_39_2 rfl <|
        q_ld1_ro .n (.t rfl) rfl ic_2 rfl <|
        q_idx_rm .n (.t rfl) (.t rfl) sl_33 (fun _ => by first | omega | assumption | (simp only [List.length_append, List.length_cons, List.length_nil, List.length_replicate, put_len] at * <;> omega)) rfl <|
        q_assign .n (.t rfl) rfl <|
        Lex.nil) (by kernel_rfl) ?_
    refine run_seq ?_
    refine run_draw fmo (q_move .n (.t rfl) rfl <|
        q_nilc_ro .n (.t rfl) rfl <|
        q_fld_ro .n (.t rfl) fo_74_1 rfl <|
        q_ld1_ro .n (.t rfl) rfl ic_2 rfl <|
        q_move .n (.t rfl) rfl <|
        q_nilc_ro .n (.t rfl) rfl <|
        q_fld_ro .n (.t rfl) fo_74_1 rfl <|
        q_ld1_ro .n (.t rfl) rfl ic_2 rfl <|
        q_int .n (.t rfl) (.t rfl) rfl rfl <|
        q_move .n (.t rfl) rfl <|
        q_move (.f rfl rfl) (.t rfl) rfl <|
        q_nilc_ro (.f rfl rfl) (.u rfl id) rfl <|
        q_fld_ro (.f rfl rfl) (.u rfl id) fo_74_1 rfl <|
        q_ld1_ro (.f rfl rfl) (.u rfl id) rfl ic_2 rfl <|
        q_move (.f rfl rfl) (.t rfl) rfl <|
        q_nilc_ro (.f rfl rfl) (.u rfl id) rfl <|
        q_fld_ro (.f rfl rfl) (.u rfl id) fo_74_2 rfl <|
        q_ld1_ro (.f rfl rfl) (.u rfl id) rfl ic_2 rfl <|
        q_int (.f rfl rfl) (.u rfl id) (.u rfl id) rfl rfl <|
        q_or .n (.t rfl) (.u rfl id) rfl <|
        q_move .n (.t rfl) rfl <|
        q_move (.f rfl rfl) (.t rfl) rfl <|
        q_nilc_ro (.f rfl rfl) (.u rfl id) rfl <|
        q_fld_ro (.f rfl rfl) (.u rfl id) fo_74_2 rfl <|
        q_ld1_ro (.f rfl rfl) (.u rfl id) rfl ic_2 rfl <|
        q_move (.f rfl rfl) (.t rfl) rfl <|
        q_nilc_ro (.f rfl rfl) (.u rfl id) rfl <|
        q_fld_ro (.f rfl rfl) (.u rfl id) fo_74_1 rfl <|
        q_ld1_ro (.f rfl rfl) (.u rfl id) rfl ic_2 rfl <|
        q_int (.f rfl rfl) (.u rfl id) (.u rfl id) rfl rfl <|
        q_or .n (.t rfl) (.u rfl id) rfl <|
        q_move .n (.t rfl) rfl <|
        q_move (.f rfl rfl) (.t rfl) rfl <|
        q_nilc_ro (.f rfl rfl) (.u rfl id) rfl <|
        q_fld_ro (.f rfl rfl) (.u rfl id) fo_74_2 rfl <|
        q_ld1_ro (.f rfl rfl) (.u rfl id) rfl ic_2 rfl <|
        q_move (.f rfl rfl) (.t rfl) rfl <|
        q_nilc_ro (.f rfl rfl) (.u rfl id) rfl <|
        q_fld_ro (.f rfl rfl) (.u rfl id) fo_74_2 rfl <|
        q_ld1_ro (.f rfl rfl) (.u rfl id) rfl ic_2 rfl <|
        q_int (.f rfl rfl) (.u rfl id) (.u rfl id) rfl rfl <|
        q_or .n (.t rfl) (.u rfl id) rfl <|
        q_assign .n (.t rfl) rfl <|
        Lex.nil) (by kernel_rfl) ?_
    refine run_seq ?_
    refine run_draw fmo (q_move .n (.t rfl) rfl <|
        q_move .n (.t rfl) rfl <|
        q_move (.t rfl rfl) (.t rfl) rfl <|
        q_nilc_ro (.t rfl rfl) (.u rfl id) rfl <|
        q_fld_ro (.t rfl rfl) (.u rfl id) fo_39_1 rfl <|
        q_ld1_ro (.t rfl rfl) (.u rfl id) rfl ic_2 rfl <|
        q_move (.t rfl rfl) (.t rfl) rfl <|
        q_nilc_ro (.t rfl rfl) (.u rfl id) rfl <|
        q_fld_ro (.t rfl rfl) (.u rfl id) fo_39_1 rfl <|
        q_ld1_ro (.t rfl rfl) (.u rfl id) rfl ic_2 rfl <|
        q_call0 (full := false) (.t rfl rfl) .f en_65 (.cons (.u rfl id) (.cons (.u rfl id) .nil)) (.cons (.b (.a (.same rfl))) (.cons (.b (.a (.same rfl))) .nil)) (fun hg => c_spec_l00Min x_.Kind y.Kind) rfl (fun h => Bool.noConfusion h) rfl <|
        q_move (.t rfl rfl) (.t rfl) rfl <|
        q_nilc_ro (.t rfl rfl) (.u rfl id) rfl <|
        q_fld_ro (.t rfl rfl) (.u rfl id) fo_39_1 rfl <|
        q_ld1_ro (.t rfl rfl) (.u rfl id) rfl ic_2 rfl <|
        q_move (.t rfl rfl) (.t rfl) rfl <|
        q_nilc_ro (.t rfl rfl) (.u rfl id) rfl <|
        q_fld_ro (.t rfl rfl) (.u rfl id) fo_39_1 rfl <|
        q_ld1_ro (.t rfl rfl) (.u rfl id) rfl ic_2 rfl <|
        q_call0 (full := false) (.t rfl rfl) .f en_66 (.cons (.u rfl id) (.cons (.u rfl id) .nil)) (.cons (.b (.a (.same rfl))) (.cons (.b (.a (.same rfl))) .nil)) (fun hg => c_spec_l00Max x_.Kind y.Kind) rfl (fun h => Bool.noConfusion h) rfl <|
        q_move (.t rfl rfl) (.t rfl) rfl <|
        q_nilc_ro (.t rfl rfl) (.u rfl id) rfl <|
        q_fld_ro (.t rfl rfl) (.u rfl id) fo_39_2 rfl <|
        q_ld1_ro (.t rfl rfl) (.u rfl id) rfl ic_2 rfl <|
        q_move (.t rfl rfl) (.t rfl) rfl <|
        q_nilc_ro (.t rfl rfl) (.u rfl id) rfl <|
        q_fld_ro (.t rfl rfl) (.u rfl id) fo_39_2 rfl <|
        q_ld1_ro (.t rfl rfl) (.u rfl id) rfl ic_2 rfl <|
        q_int (.t rfl rfl) (.u rfl id) (.u rfl id) rfl rfl <|
        q_call0 (full := false) (.t rfl rfl) .f en_64 (.cons (.u rfl id) (.cons (.u rfl id) (.cons (.u rfl id) .nil))) (.cons (.b (.a (.same rfl))) (.cons (.b (.a (.same rfl))) (.cons (.b (.a (.same rfl))) .nil))) (fun hg => c_spec_l26Kinds (m_spec_l00Min x_.Kind y.Kind) (m_spec_l00Max x_.Kind y.Kind) (x_.Airway == y.Airway)) rfl (fun h => Bool.noConfusion h) rfl <|
        q_and .n (.t rfl) (.u rfl id) rfl <|
        q_assign .n (.t rfl) rfl <|
        Lex.nil) (by kernel_rfl) ?_
    exact run_ret [] (.cons (.t rfl rfl) .nil) rfl trivial rfl

/-! ### spec_FirstStart -/
set_option maxHeartbeats 4000000 in
theorem c_spec_FirstStart (m_ : gMine) (list : List gPermit) (x_ : gPermit) : Con Try.prog 9 [.st [.int .i64 m_.Junctions, .sl 7 (m_.Airways.map gAirway.v)], .sl 5 (list.map gPermit.v), .st [.str x_.Id, .int .i64 x_.Kind, .int .i64 x_.Airway, .int .i64 x_.From, .int .i64 x_.Until]] [] (.tup [.int .i64 (m_spec_FirstStart m_ list x_).1, .int .i64 (m_spec_FirstStart m_ list x_).2]) ([]) := by
  refine con_intro (out := fun r : Int × Int => ((.tup [.int .i64 r.1, .int .i64 r.2] : V), ([] : List (Nat × Option O)))) (r := (m_spec_FirstStart m_ list x_)) Try.func9 rfl Try.ntmps9 rfl ?_
  refine run_factS (t := 0) 1 rfl rfl fun hl => ?_
  have l1 := hl; clear hl; simp only [List.length_map] at l1
  refine run_fact (t := 1) rfl fun hl => ?_
  have l2 := hl; clear hl; simp only [List.length_map] at l2
  refine run_seq ?_
  refine run_region (q_box (l := 200) .n rfl (.t rfl) rfl rfl rfl rfl <|
      q_box (l := 201) .n rfl (.t rfl) rfl rfl rfl rfl <|
      q_assign .n (.c rfl) rfl <|
      q_assign .n (.c rfl) rfl <|
      Lex.nil) ?_
  refine run_seq ?_
  refine run_seq ?_
  refine run_region (q_move .n (.t rfl) rfl <|
      q_call0 (full := true) .n .f en_30 (.cons (.t rfl) (.cons (.t rfl) .nil)) (.cons (.b (.ptr rfl rfl (.inr rfl) rfl rfl (.cons (.same rfl) (.cons (.same rfl) .nil)))) (.cons (.b (.a (.same rfl))) .nil)) (fun hg => c_spec_l26Ok m_ list) rfl (fun _ => rfl) rfl <|
      q_not .n (.t rfl) rfl <|
      Lex.nil) ?_
  refine run_cond (.t rfl) rfl (fun h3 => ?_) (fun h3 => ?_)
  · try simp only [Bool.and_eq_true, Bool.or_eq_true, Bool.not_eq_true', Bool.and_eq_false_iff, Bool.or_eq_false_iff, Bool.not_eq_false', decide_eq_true_eq, decide_eq_false_iff_not, beq_iff_eq, bne_iff_ne, beq_eq_false_iff_ne, bne_eq_false_iff_eq, Bool.true_and, ne_eq, Decidable.not_not, Int.not_lt, Int.not_le, Nat.not_lt, Nat.not_le, strB_nil, strB_nil', strB_nnil, strB_nnil'] at h3
    try have hf0h3 := l26Ok_imp h3
    try have hf1h3 := l26Ok_imp h3.1
    try have hf2h3 := l26Ok_imp h3.2
    try have hf3h3 := l26Ok_imp h3.1.1
    try have hf4h3 := l26Ok_imp h3.1.2
    try have hf5h3 := l26Ok_imp h3.2.1
    try have hf6h3 := l26Ok_imp h3.2.2
    refine run_seq ?_
    refine run_region (q_assign .n (.c rfl) rfl <|
        q_assign .n (.c rfl) rfl <|
        Lex.nil) ?_
    exact run_ret [] (.cons (.t rfl rfl) (.cons (.t rfl rfl) .nil)) rfl trivial rfl
  · try simp only [Bool.and_eq_true, Bool.or_eq_true, Bool.not_eq_true', Bool.and_eq_false_iff, Bool.or_eq_false_iff, Bool.not_eq_false', decide_eq_true_eq, decide_eq_false_iff_not, beq_iff_eq, bne_iff_ne, beq_eq_false_iff_ne, bne_eq_false_iff_eq, Bool.true_and, ne_eq, Decidable.not_not, Int.not_lt, Int.not_le, Nat.not_lt, Nat.not_le, strB_nil, strB_nil', strB_nnil, strB_nnil'] at h3
    try have hf0h3 := l26Ok_imp h3
    try have hf1h3 := l26Ok_imp h3.1
    try have hf2h3 := l26Ok_imp h3.2
    try have hf3h3 := l26Ok_imp h3.1.1
    try have hf4h3 := l26Ok_imp h3.1.2
    try have hf5h3 := l26Ok_imp h3.2.1
    try have hf6h3 := l26Ok_imp h3.2.2
    refine run_skip ?_
    refine run_seq ?_
    refine run_seq ?_
    refine run_region (q_call0 (full := true) .n .f en_31 (.cons (.t rfl) .nil) (.cons (.b (.ptr rfl rfl (.inr rfl) rfl rfl (.cons (.same rfl) (.cons (.same rfl) (.cons (.same rfl) (.cons (.same rfl) (.cons (.same rfl) .nil))))))) .nil) (fun hg => c_spec_l26One x_) rfl (fun _ => rfl) rfl <|
        q_not .n (.t rfl) rfl <|
        q_move .n (.t rfl) rfl <|
        q_fld_ow (.f rfl rfl) (.t rfl) fo_39_2 rfl <|
        q_ld1_ow (.f rfl rfl) (.u rfl id) rfl (.inr rfl) (fun _ => rfl) rfl ic_2 rfl <|
        q_fld_ow (.f rfl rfl) (.t rfl) fo_35_1 rfl <|
        q_ld1_ow (.f rfl rfl) (.u rfl id) rfl (.inr rfl) (fun _ => rfl) rfl ic_33 rfl <|
        q_len (.f rfl rfl) (.u rfl id) rfl len_map ss_33 rfl <|
        q_int (.f rfl rfl) (.u rfl id) (.u rfl id) rfl rfl <|
        q_or .n (.t rfl) (.u rfl id) rfl <|
        Lex.nil) ?_
    refine run_cond (.t rfl) rfl (fun h4 => ?_) (fun h4 => ?_)
    · try simp only [Bool.and_eq_true, Bool.or_eq_true, Bool.not_eq_true', Bool.and_eq_false_iff, Bool.or_eq_false_iff, Bool.not_eq_false', decide_eq_true_eq, decide_eq_false_iff_not, beq_iff_eq, bne_iff_ne, beq_eq_false_iff_ne, bne_eq_false_iff_eq, Bool.true_and, ne_eq, Decidable.not_not, Int.not_lt, Int.not_le, Nat.not_lt, Nat.not_le, strB_nil, strB_nil', strB_nnil, strB_nnil'] at h4
      try have hf0h4 := one_imp h4
      try have hf1h4 := one_imp h4.1
      try have hf2h4 := one_imp h4.2
      try have hf3h4 := one_imp h4.1.1
      try have hf4h4 := one_imp h4.1.2
      try have hf5h4 := one_imp h4.2.1
      try have hf6h4 := one_imp h4.2.2
      refine run_seq ?_
      refine run_region (q_assign .n (.c rfl) rfl <|
          q_assign .n (.c rfl) rfl <|
          Lex.nil) ?_
      exact run_ret [] (.cons (.t rfl rfl) (.cons (.t rfl rfl) .nil)) rfl trivial rfl
    · try simp only [Bool.and_eq_true, Bool.or_eq_true, Bool.not_eq_true', Bool.and_eq_false_iff, Bool.or_eq_false_iff, Bool.not_eq_false', decide_eq_true_eq, decide_eq_false_iff_not, beq_iff_eq, bne_iff_ne, beq_eq_false_iff_ne, bne_eq_false_iff_eq, Bool.true_and, ne_eq, Decidable.not_not, Int.not_lt, Int.not_le, Nat.not_lt, Nat.not_le, strB_nil, strB_nil', strB_nnil, strB_nnil'] at h4
      try have hf0h4 := one_imp h4
      try have hf1h4 := one_imp h4.1
      try have hf2h4 := one_imp h4.2
      try have hf3h4 := one_imp h4.1.1
      try have hf4h4 := one_imp h4.1.2
      try have hf5h4 := one_imp h4.2.1
      try have hf6h4 := one_imp h4.2.2
      refine run_skip ?_
      refine run_seq ?_
      refine run_region (q_fld_ow .n (.t rfl) fo_39_4 rfl <|
          q_ld1_ow .n (.t rfl) rfl (.inr rfl) (fun _ => rfl) rfl ic_2 rfl <|
          q_fld_ow .n (.t rfl) fo_39_3 rfl <|
          q_ld1_ow .n (.t rfl) rfl (.inr rfl) (fun _ => rfl) rfl ic_2 rfl <|
          q_int .n (.t rfl) (.t rfl) rfl rfl <|
          q_assign .n (.t rfl) rfl <|
          Lex.nil) ?_
      refine run_block ?_
      refine run_LOOP (m_spec_FirstStart_b1 m_ list x_) _ _ _ rfl (fun (x1 : Int × Int) => 0 ≤ x1.1 ∧ x1.1 ≤ 100000) (fun x1 => False) (fun x1 => (100000 - x1.1 : Int).toNat) (fun x1 => ⟨[(1, some (true, .sl 5 (list.map gPermit.v))), (3, some (true, .op 200 0 0 0)), (5, some (true, .op 201 0 0 0)), (8, some (true, .int .i64 (IntKind.wrap .i64 (x_.Until - x_.From))))], [(200, some (.box 35 [.int .i64 m_.Junctions, .sl 7 (m_.Airways.map gAirway.v)])), (201, some (.box 39 [.str x_.Id, .int .i64 x_.Kind, .int .i64 x_.Airway, .int .i64 x1.1, .int .i64 x1.2]))]⟩) (fun x1 => ⟨[], []⟩) (by first | omega | assumption | (simp only [List.length_append, List.length_cons, List.length_nil, List.length_replicate, put_len] at * <;> omega) | (have hq := PmIn.at (list := list) (i := x1) (by assumption) (by omega); omega) | (have hq := PmIn.at (list := list) (i := x2.2) (by assumption) (by omega); omega) | (have hq := PmIn.at (list := list) (i := x2.2) (by assumption) (by omega); dsimp only at *; omega) | (exact PmIn.air (by assumption)) | (dsimp only; omega)) (by first | omega | assumption | (simp only [List.length_append, List.length_cons, List.length_nil, List.length_replicate, put_len] at * <;> omega) | (have hq := PmIn.at (list := list) (i := x1) (by assumption) (by omega); omega) | (have hq := PmIn.at (list := list) (i := x2.2) (by assumption) (by omega); omega) | (have hq := PmIn.at (list := list) (i := x2.2) (by assumption) (by omega); dsimp only at *; omega) | (exact PmIn.air (by assumption)) | (dsimp only; omega)) (sub_of [] ⟨rfl, rfl, rfl, rfl, trivial⟩ ⟨rfl, rfl, trivial⟩ rfl) ?_ ?_
      · intro x1 i21
        exact i21.elim
      · intro rec1 k1 hk5 x1 i6
        have e22 := i6
        try dsimp only at *
        refine run_block ?_
        refine run_seq ?_
        refine run_region (q_assign .n (.c rfl) rfl <|
            Lex.nil) ?_
        refine run_seq ?_
        refine run_seq ?_
        refine run_region (q_assign .n (.c rfl) rfl <|
            Lex.nil) ?_
        refine run_block ?_
        refine run_LOOP (m_spec_FirstStart_b2 m_ list x_ rec1 k1 x1) _ _ _ rfl (fun (x2 : Int × Int) => 0 ≤ x2.2 ∧ x2.2 ≤ (list.length : Int) ∧ (x2.1 < 0 ∨ (x1.1 < x2.1 ∧ x2.1 ≤ 100000))) (fun x2 => 0 ≤ x2.2 ∧ x2.2 ≤ (list.length : Int) ∧ (x2.1 < 0 ∨ (x1.1 < x2.1 ∧ x2.1 ≤ 100000)) ∧ (list.length : Int) ≤ x2.2) (fun x2 => ((list.length : Int) - x2.2 : Int).toNat) (fun x2 => ⟨[(1, some (true, .sl 5 (list.map gPermit.v))), (3, some (true, .op 200 0 0 0)), (5, some (true, .op 201 0 0 0)), (8, some (true, .int .i64 (IntKind.wrap .i64 (x_.Until - x_.From)))), (9, some (true, .int .i64 x2.1)), (10, some (true, .int .i64 x2.2))], [(200, some (.box 35 [.int .i64 m_.Junctions, .sl 7 (m_.Airways.map gAirway.v)])), (201, some (.box 39 [.str x_.Id, .int .i64 x_.Kind, .int .i64 x_.Airway, .int .i64 x1.1, .int .i64 x1.2]))]⟩) (fun x2 => ⟨[(1, some (true, .sl 5 (list.map gPermit.v))), (3, some (true, .op 200 0 0 0)), (5, some (true, .op 201 0 0 0)), (8, some (true, .int .i64 (IntKind.wrap .i64 (x_.Until - x_.From)))), (9, some (true, .int .i64 x2.1))], [(200, some (.box 35 [.int .i64 m_.Junctions, .sl 7 (m_.Airways.map gAirway.v)])), (201, some (.box 39 [.str x_.Id, .int .i64 x_.Kind, .int .i64 x_.Airway, .int .i64 x1.1, .int .i64 x1.2]))]⟩) ⟨by first | omega | assumption | (simp only [List.length_append, List.length_cons, List.length_nil, List.length_replicate, put_len] at * <;> omega) | (have hq := PmIn.at (list := list) (i := x1) (by assumption) (by omega); omega) | (have hq := PmIn.at (list := list) (i := x2.2) (by assumption) (by omega); omega) | (have hq := PmIn.at (list := list) (i := x2.2) (by assumption) (by omega); dsimp only at *; omega) | (exact PmIn.air (by assumption)) | (dsimp only; omega), by first | omega | assumption | (simp only [List.length_append, List.length_cons, List.length_nil, List.length_replicate, put_len] at * <;> omega) | (have hq := PmIn.at (list := list) (i := x1) (by assumption) (by omega); omega) | (have hq := PmIn.at (list := list) (i := x2.2) (by assumption) (by omega); omega) | (have hq := PmIn.at (list := list) (i := x2.2) (by assumption) (by omega); dsimp only at *; omega) | (exact PmIn.air (by assumption)) | (dsimp only; omega), by first | omega | assumption | (simp only [List.length_append, List.length_cons, List.length_nil, List.length_replicate, put_len] at * <;> omega) | (have hq := PmIn.at (list := list) (i := x1) (by assumption) (by omega); omega) | (have hq := PmIn.at (list := list) (i := x2.2) (by assumption) (by omega); omega) | (have hq := PmIn.at (list := list) (i := x2.2) (by assumption) (by omega); dsimp only at *; omega) | (exact PmIn.air (by assumption)) | (dsimp only; omega)⟩ (by first | omega | assumption | (simp only [List.length_append, List.length_cons, List.length_nil, List.length_replicate, put_len] at * <;> omega) | (have hq := PmIn.at (list := list) (i := x1) (by assumption) (by omega); omega) | (have hq := PmIn.at (list := list) (i := x2.2) (by assumption) (by omega); omega) | (have hq := PmIn.at (list := list) (i := x2.2) (by assumption) (by omega); dsimp only at *; omega) | (exact PmIn.air (by assumption)) | (dsimp only; omega)) (sub_of [] ⟨rfl, rfl, rfl, rfl, rfl, rfl, trivial⟩ ⟨rfl, rfl, trivial⟩ rfl) ?_ ?_
        · intro x2 i11
          obtain ⟨e14, e15, e16, e17⟩ := i11
          try dsimp only at *
          refine run_seq ?_
          refine run_seq ?_
          refine run_region (q_move .n (.t rfl) rfl <|
              q_int .n (.t rfl) (.c rfl) rfl rfl <|
              Lex.nil) ?_
          refine run_cond (.t rfl) rfl (fun h12 => ?_) (fun h12 => ?_)
          · try simp only [Bool.and_eq_true, Bool.or_eq_true, Bool.not_eq_true', Bool.and_eq_false_iff, Bool.or_eq_false_iff, Bool.not_eq_false', decide_eq_true_eq, decide_eq_false_iff_not, beq_iff_eq, bne_iff_ne, beq_eq_false_iff_ne, bne_eq_false_iff_eq, Bool.true_and, ne_eq, Decidable.not_not, Int.not_lt, Int.not_le, Nat.not_lt, Nat.not_le, strB_nil, strB_nil', strB_nnil, strB_nnil'] at h12
            refine run_seq ?_
            refine run_region (q_fld_ow .n (.t rfl) fo_39_3 rfl <|
                q_ld1_ow .n (.t rfl) rfl (.inr rfl) (fun _ => rfl) rfl ic_2 rfl <|
                q_assign .n (.t rfl) rfl <|
                q_assign .n (.c rfl) rfl <|
                Lex.nil) ?_
            exact run_ret [] (.cons (.t rfl rfl) (.cons (.t rfl rfl) .nil)) rfl trivial rfl
          · try simp only [Bool.and_eq_true, Bool.or_eq_true, Bool.not_eq_true', Bool.and_eq_false_iff, Bool.or_eq_false_iff, Bool.not_eq_false', decide_eq_true_eq, decide_eq_false_iff_not, beq_iff_eq, bne_iff_ne, beq_eq_false_iff_ne, bne_eq_false_iff_eq, Bool.true_and, ne_eq, Decidable.not_not, Int.not_lt, Int.not_le, Nat.not_lt, Nat.not_le, strB_nil, strB_nil', strB_nnil, strB_nnil'] at h12
            refine run_skip ?_
            refine run_seq ?_
            refine run_region (q_move .n (.t rfl) rfl <|
                q_fld_ow .n (.t rfl) fo_39_3 rfl <|
                q_st_boxm [.str x_.Id, .int .i64 x_.Kind, .int .i64 x_.Airway, .int .i64 x2.1, .int .i64 x1.2] .n rfl (.t rfl) (.t rfl) rfl ts_2 rfl rfl <|
                Lex.nil) ?_
            refine run_seq ?_
            refine run_region (q_move .n (.t rfl) rfl <|
                q_move .n (.t rfl) rfl <|
                q_int .n (.t rfl) (.t rfl) rfl rfl <|
                q_fld_ow .n (.t rfl) fo_39_4 rfl <|
                q_st_boxm [.str x_.Id, .int .i64 x_.Kind, .int .i64 x_.Airway, .int .i64 x2.1, .int .i64 (IntKind.wrap .i64 (x2.1 + (IntKind.wrap .i64 (x_.Until - x_.From))))] .n rfl (.t rfl) (.t rfl) rfl ts_2 rfl rfl <|
                Lex.nil) ?_
            refine run_seq ?_
            refine run_region (q_fld_ow .n (.t rfl) fo_39_4 rfl <|
                q_ld1_ow .n (.t rfl) rfl (.inr rfl) (fun _ => rfl) rfl ic_2 rfl <|
                q_int .n (.t rfl) (.c rfl) rfl rfl <|
                Lex.nil) ?_
            refine run_cond (.t rfl) rfl (fun h13 => ?_) (fun h13 => ?_)
            · try simp only [Bool.and_eq_true, Bool.or_eq_true, Bool.not_eq_true', Bool.and_eq_false_iff, Bool.or_eq_false_iff, Bool.not_eq_false', decide_eq_true_eq, decide_eq_false_iff_not, beq_iff_eq, bne_iff_ne, beq_eq_false_iff_ne, bne_eq_false_iff_eq, Bool.true_and, ne_eq, Decidable.not_not, Int.not_lt, Int.not_le, Nat.not_lt, Nat.not_le, strB_nil, strB_nil', strB_nnil, strB_nnil'] at h13
              refine run_seq ?_
              refine run_region (q_assign .n (.c rfl) rfl <|
                  q_assign .n (.c rfl) rfl <|
                  Lex.nil) ?_
              exact run_ret [] (.cons (.t rfl rfl) (.cons (.t rfl rfl) .nil)) rfl trivial rfl
            · try simp only [Bool.and_eq_true, Bool.or_eq_true, Bool.not_eq_true', Bool.and_eq_false_iff, Bool.or_eq_false_iff, Bool.not_eq_false', decide_eq_true_eq, decide_eq_false_iff_not, beq_iff_eq, bne_iff_ne, beq_eq_false_iff_ne, bne_eq_false_iff_eq, Bool.true_and, ne_eq, Decidable.not_not, Int.not_lt, Int.not_le, Nat.not_lt, Nat.not_le, strB_nil, strB_nil', strB_nnil, strB_nnil'] at h13
              refine run_skip ?_
              refine run_endB ?_
              exact run_again (x2.1, IntKind.wrap .i64 (x2.1 + (IntKind.wrap .i64 (x_.Until - x_.From)))) (by first | omega | assumption | (simp only [List.length_append, List.length_cons, List.length_nil, List.length_replicate, put_len] at * <;> omega) | (have hq := PmIn.at (list := list) (i := x1) (by assumption) (by omega); omega) | (have hq := PmIn.at (list := list) (i := x2.2) (by assumption) (by omega); omega) | (have hq := PmIn.at (list := list) (i := x2.2) (by assumption) (by omega); dsimp only at *; omega) | (exact PmIn.air (by assumption)) | (dsimp only; omega)) (by first | omega | assumption | (simp only [List.length_append, List.length_cons, List.length_nil, List.length_replicate, put_len] at * <;> omega) | (have hq := PmIn.at (list := list) (i := x1) (by assumption) (by omega); omega) | (have hq := PmIn.at (list := list) (i := x2.2) (by assumption) (by omega); omega) | (have hq := PmIn.at (list := list) (i := x2.2) (by assumption) (by omega); dsimp only at *; omega) | (exact PmIn.air (by assumption)) | (dsimp only; omega)) (sub_of [] ⟨rfl, rfl, rfl, rfl, trivial⟩ ⟨rfl, rfl, trivial⟩ rfl)
        · intro rec2 k2 hk7 x2 i8
          obtain ⟨e18, e19, e20⟩ := i8
          try dsimp only at *
          refine run_seq ?_
          refine run_seq ?_
          refine run_region (q_move .n (.t rfl) rfl <|
              q_move .n (.t rfl) rfl <|
              q_len .n (.t rfl) rfl len_map ss_37 rfl <|
              q_int .n (.t rfl) (.t rfl) rfl rfl <|
              Lex.nil) ?_
          refine run_cond (.t rfl) rfl (fun h9 => ?_) (fun h9 => ?_)
          · try simp only [Bool.and_eq_true, Bool.or_eq_true, Bool.not_eq_true', Bool.and_eq_false_iff, Bool.or_eq_false_iff, Bool.not_eq_false', decide_eq_true_eq, decide_eq_false_iff_not, beq_iff_eq, bne_iff_ne, beq_eq_false_iff_ne, bne_eq_false_iff_eq, Bool.true_and, ne_eq, Decidable.not_not, Int.not_lt, Int.not_le, Nat.not_lt, Nat.not_le, strB_nil, strB_nil', strB_nnil, strB_nnil'] at h9
            refine run_skip ?_
            refine run_seq ?_
            refine run_block ?_
            refine run_seq ?_
            refine run_region (q_move .n (.t rfl) rfl <|
                q_move .n (.t rfl) rfl <|
                q_idx_rm .n (.t rfl) (.t rfl) sl_37 (fun _ => by first | omega | assumption | (simp only [List.length_append, List.length_cons, List.length_nil, List.length_replicate, put_len] at * <;> omega) | (have hq := PmIn.at (list := list) (i := x1) (by assumption) (by omega); omega) | (have hq := PmIn.at (list := list) (i := x2.2) (by assumption) (by omega); omega) | (have hq := PmIn.at (list := list) (i := x2.2) (by assumption) (by omega); dsimp only at *; omega) | (exact PmIn.air (by assumption)) | (dsimp only; omega)) rfl <|
                q_call0 (full := true) .n .f en_32 (.cons (.t rfl) (.cons (.t rfl) (.cons (.t rfl) .nil))) (.cons (.b (.ptr rfl rfl (.inr rfl) rfl rfl (.cons (.same rfl) (.cons (.same rfl) .nil)))) (.cons (.b (.a (.same rfl))) (.cons (.b (.ptr rfl rfl (.inr rfl) rfl rfl (.cons (.same rfl) (.cons (.same rfl) (.cons (.same rfl) (.cons (.same rfl) (.cons (.same rfl) .nil))))))) .nil))) (fun hg => c_spec_l26Clash m_ (at' list x2.2) (gPermit.mk x_.Id x_.Kind x_.Airway x1.1 x1.2) (by first | omega | assumption | (simp only [List.length_append, List.length_cons, List.length_nil, List.length_replicate, put_len] at * <;> omega) | (have hq := PmIn.at (list := list) (i := x1) (by assumption) (by omega); omega) | (have hq := PmIn.at (list := list) (i := x2.2) (by assumption) (by omega); omega) | (have hq := PmIn.at (list := list) (i := x2.2) (by assumption) (by omega); dsimp only at *; omega) | (exact PmIn.air (by assumption)) | (dsimp only; omega)) (by first | omega | assumption | (simp only [List.length_append, List.length_cons, List.length_nil, List.length_replicate, put_len] at * <;> omega) | (have hq := PmIn.at (list := list) (i := x1) (by assumption) (by omega); omega) | (have hq := PmIn.at (list := list) (i := x2.2) (by assumption) (by omega); omega) | (have hq := PmIn.at (list := list) (i := x2.2) (by assumption) (by omega); dsimp only at *; omega) | (exact PmIn.air (by assumption)) | (dsimp only; omega))) rfl (fun _ => rfl) rfl <|
                q_move .n (.t rfl) rfl <|
                q_move (.t rfl rfl) (.t rfl) rfl <|
                q_int (.t rfl rfl) (.u rfl id) (.c rfl) rfl rfl <|
                q_move (.t rfl rfl) (.u rfl id) rfl <|
                q_move (.f rfl rfl) (.t rfl) rfl <|
                q_move (.f rfl rfl) (.t rfl) rfl <|
                q_idx_rm (.f rfl rfl) (.u rfl id) (.u rfl id) sl_37 (fun hg => by simp only [Bool.and_eq_true, Bool.or_eq_true, Bool.not_eq_true', Bool.and_eq_false_iff, Bool.or_eq_false_iff, Bool.not_eq_false', decide_eq_true_eq, decide_eq_false_iff_not, beq_iff_eq, bne_iff_ne, beq_eq_false_iff_ne, bne_eq_false_iff_eq, Bool.true_and, ne_eq, Decidable.not_not, Int.not_lt, Int.not_le, Nat.not_lt, Nat.not_le, strB_nil, strB_nil', strB_nnil, strB_nnil'] at hg; first | omega | assumption | (simp only [List.length_append, List.length_cons, List.length_nil, List.length_replicate, put_len] at * <;> omega) | (have hq := PmIn.at (list := list) (i := x1) (by assumption) (by omega); omega) | (have hq := PmIn.at (list := list) (i := x2.2) (by assumption) (by omega); omega) | (have hq := PmIn.at (list := list) (i := x2.2) (by assumption) (by omega); dsimp only at *; omega) | (exact PmIn.air (by assumption)) | (dsimp only; omega)) rfl <|
                q_fld_ro (.f rfl rfl) (.u rfl id) fo_39_4 rfl <|
                q_ld1_ro (.f rfl rfl) (.u rfl id) rfl ic_2 rfl <|
                q_move (.f rfl rfl) (.t rfl) rfl <|
                q_int (.f rfl rfl) (.u rfl id) (.u rfl id) rfl rfl <|
                q_or (.t rfl rfl) (.u rfl id) (.u rfl id) rfl <|
                q_and .n (.t rfl) (.u rfl id) rfl <|
                Lex.nil) ?_
            refine run_cond (.t rfl) rfl (fun h10 => ?_) (fun h10 => ?_)
            · try simp only [Bool.and_eq_true, Bool.or_eq_true, Bool.not_eq_true', Bool.and_eq_false_iff, Bool.or_eq_false_iff, Bool.not_eq_false', decide_eq_true_eq, decide_eq_false_iff_not, beq_iff_eq, bne_iff_ne, beq_eq_false_iff_ne, bne_eq_false_iff_eq, Bool.true_and, ne_eq, Decidable.not_not, Int.not_lt, Int.not_le, Nat.not_lt, Nat.not_le, strB_nil, strB_nil', strB_nnil, strB_nnil'] at h10
              try have hf0h10 := l26Clash_imp h10
              try have hf1h10 := l26Clash_imp h10.1
              try have hf2h10 := l26Clash_imp h10.2
              try have hf3h10 := l26Clash_imp h10.1.1
              try have hf4h10 := l26Clash_imp h10.1.2
              try have hf5h10 := l26Clash_imp h10.2.1
              try have hf6h10 := l26Clash_imp h10.2.2
              refine run_region (q_move .n (.t rfl) rfl <|
                  q_move .n (.t rfl) rfl <|
                  q_idx_rm .n (.t rfl) (.t rfl) sl_37 (fun _ => by first | omega | assumption | (simp only [List.length_append, List.length_cons, List.length_nil, List.length_replicate, put_len] at * <;> omega) | (have hq := PmIn.at (list := list) (i := x1) (by assumption) (by omega); omega) | (have hq := PmIn.at (list := list) (i := x2.2) (by assumption) (by omega); omega) | (have hq := PmIn.at (list := list) (i := x2.2) (by assumption) (by omega); dsimp only at *; omega) | (exact PmIn.air (by assumption)) | (dsimp only; omega)) rfl <|
                  q_fld_ro .n (.t rfl) fo_39_4 rfl <|
                  q_ld1_ro .n (.t rfl) rfl ic_2 rfl <|
                  q_assign .n (.t rfl) rfl <|
                  Lex.nil) ?_
              refine run_endB ?_
              refine run_region (q_move .n (.t rfl) rfl <|
                  q_add .n (.t rfl) (.c rfl) (fun _ => by first | omega | assumption | (simp only [List.length_append, List.length_cons, List.length_nil, List.length_replicate, put_len] at * <;> omega) | (have hq := PmIn.at (list := list) (i := x1) (by assumption) (by omega); omega) | (have hq := PmIn.at (list := list) (i := x2.2) (by assumption) (by omega); omega) | (have hq := PmIn.at (list := list) (i := x2.2) (by assumption) (by omega); dsimp only at *; omega) | (exact PmIn.air (by assumption)) | (dsimp only; omega)) rfl <|
                  q_assign .n (.t rfl) rfl <|
                  Lex.nil) ?_
              exact run_again ((at' list x2.2).Until, x2.2 + 1) ⟨by first | omega | assumption | (simp only [List.length_append, List.length_cons, List.length_nil, List.length_replicate, put_len] at * <;> omega) | (have hq := PmIn.at (list := list) (i := x1) (by assumption) (by omega); omega) | (have hq := PmIn.at (list := list) (i := x2.2) (by assumption) (by omega); omega) | (have hq := PmIn.at (list := list) (i := x2.2) (by assumption) (by omega); dsimp only at *; omega) | (exact PmIn.air (by assumption)) | (dsimp only; omega), by first | omega | assumption | (simp only [List.length_append, List.length_cons, List.length_nil, List.length_replicate, put_len] at * <;> omega) | (have hq := PmIn.at (list := list) (i := x1) (by assumption) (by omega); omega) | (have hq := PmIn.at (list := list) (i := x2.2) (by assumption) (by omega); omega) | (have hq := PmIn.at (list := list) (i := x2.2) (by assumption) (by omega); dsimp only at *; omega) | (exact PmIn.air (by assumption)) | (dsimp only; omega), by first | omega | assumption | (simp only [List.length_append, List.length_cons, List.length_nil, List.length_replicate, put_len] at * <;> omega) | (have hq := PmIn.at (list := list) (i := x1) (by assumption) (by omega); omega) | (have hq := PmIn.at (list := list) (i := x2.2) (by assumption) (by omega); omega) | (have hq := PmIn.at (list := list) (i := x2.2) (by assumption) (by omega); dsimp only at *; omega) | (exact PmIn.air (by assumption)) | (dsimp only; omega)⟩ (by first | omega | assumption | (simp only [List.length_append, List.length_cons, List.length_nil, List.length_replicate, put_len] at * <;> omega) | (have hq := PmIn.at (list := list) (i := x1) (by assumption) (by omega); omega) | (have hq := PmIn.at (list := list) (i := x2.2) (by assumption) (by omega); omega) | (have hq := PmIn.at (list := list) (i := x2.2) (by assumption) (by omega); dsimp only at *; omega) | (exact PmIn.air (by assumption)) | (dsimp only; omega)) (sub_of [] ⟨rfl, rfl, rfl, rfl, rfl, rfl, trivial⟩ ⟨rfl, rfl, trivial⟩ rfl)
            · try simp only [Bool.and_eq_true, Bool.or_eq_true, Bool.not_eq_true', Bool.and_eq_false_iff, Bool.or_eq_false_iff, Bool.not_eq_false', decide_eq_true_eq, decide_eq_false_iff_not, beq_iff_eq, bne_iff_ne, beq_eq_false_iff_ne, bne_eq_false_iff_eq, Bool.true_and, ne_eq, Decidable.not_not, Int.not_lt, Int.not_le, Nat.not_lt, Nat.not_le, strB_nil, strB_nil', strB_nnil, strB_nnil'] at h10
              try have hf0h10 := l26Clash_imp h10
              try have hf1h10 := l26Clash_imp h10.1
              try have hf2h10 := l26Clash_imp h10.2
              try have hf3h10 := l26Clash_imp h10.1.1
              try have hf4h10 := l26Clash_imp h10.1.2
              try have hf5h10 := l26Clash_imp h10.2.1
              try have hf6h10 := l26Clash_imp h10.2.2
              refine run_skip ?_
              refine run_endB ?_
              refine run_region (q_move .n (.t rfl) rfl <|
                  q_add .n (.t rfl) (.c rfl) (fun _ => by first | omega | assumption | (simp only [List.length_append, List.length_cons, List.length_nil, List.length_replicate, put_len] at * <;> omega) | (have hq := PmIn.at (list := list) (i := x1) (by assumption) (by omega); omega) | (have hq := PmIn.at (list := list) (i := x2.2) (by assumption) (by omega); omega) | (have hq := PmIn.at (list := list) (i := x2.2) (by assumption) (by omega); dsimp only at *; omega) | (exact PmIn.air (by assumption)) | (dsimp only; omega)) rfl <|
                  q_assign .n (.t rfl) rfl <|
                  Lex.nil) ?_
              exact run_again (x2.1, x2.2 + 1) ⟨by first | omega | assumption | (simp only [List.length_append, List.length_cons, List.length_nil, List.length_replicate, put_len] at * <;> omega) | (have hq := PmIn.at (list := list) (i := x1) (by assumption) (by omega); omega) | (have hq := PmIn.at (list := list) (i := x2.2) (by assumption) (by omega); omega) | (have hq := PmIn.at (list := list) (i := x2.2) (by assumption) (by omega); dsimp only at *; omega) | (exact PmIn.air (by assumption)) | (dsimp only; omega), by first | omega | assumption | (simp only [List.length_append, List.length_cons, List.length_nil, List.length_replicate, put_len] at * <;> omega) | (have hq := PmIn.at (list := list) (i := x1) (by assumption) (by omega); omega) | (have hq := PmIn.at (list := list) (i := x2.2) (by assumption) (by omega); omega) | (have hq := PmIn.at (list := list) (i := x2.2) (by assumption) (by omega); dsimp only at *; omega) | (exact PmIn.air (by assumption)) | (dsimp only; omega), by first | omega | assumption | (simp only [List.length_append, List.length_cons, List.length_nil, List.length_replicate, put_len] at * <;> omega) | (have hq := PmIn.at (list := list) (i := x1) (by assumption) (by omega); omega) | (have hq := PmIn.at (list := list) (i := x2.2) (by assumption) (by omega); omega) | (have hq := PmIn.at (list := list) (i := x2.2) (by assumption) (by omega); dsimp only at *; omega) | (exact PmIn.air (by assumption)) | (dsimp only; omega)⟩ (by first | omega | assumption | (simp only [List.length_append, List.length_cons, List.length_nil, List.length_replicate, put_len] at * <;> omega) | (have hq := PmIn.at (list := list) (i := x1) (by assumption) (by omega); omega) | (have hq := PmIn.at (list := list) (i := x2.2) (by assumption) (by omega); omega) | (have hq := PmIn.at (list := list) (i := x2.2) (by assumption) (by omega); dsimp only at *; omega) | (exact PmIn.air (by assumption)) | (dsimp only; omega)) (sub_of [] ⟨rfl, rfl, rfl, rfl, rfl, rfl, trivial⟩ ⟨rfl, rfl, trivial⟩ rfl)
          · try simp only [Bool.and_eq_true, Bool.or_eq_true, Bool.not_eq_true', Bool.and_eq_false_iff, Bool.or_eq_false_iff, Bool.not_eq_false', decide_eq_true_eq, decide_eq_false_iff_not, beq_iff_eq, bne_iff_ne, beq_eq_false_iff_ne, bne_eq_false_iff_eq, Bool.true_and, ne_eq, Decidable.not_not, Int.not_lt, Int.not_le, Nat.not_lt, Nat.not_le, strB_nil, strB_nil', strB_nnil, strB_nnil'] at h9
            refine run_exit rfl ?_
            exact run_cont hk7 (x2.1, x2.2) ⟨by first | omega | assumption | (simp only [List.length_append, List.length_cons, List.length_nil, List.length_replicate, put_len] at * <;> omega) | (have hq := PmIn.at (list := list) (i := x1) (by assumption) (by omega); omega) | (have hq := PmIn.at (list := list) (i := x2.2) (by assumption) (by omega); omega) | (have hq := PmIn.at (list := list) (i := x2.2) (by assumption) (by omega); dsimp only at *; omega) | (exact PmIn.air (by assumption)) | (dsimp only; omega), by first | omega | assumption | (simp only [List.length_append, List.length_cons, List.length_nil, List.length_replicate, put_len] at * <;> omega) | (have hq := PmIn.at (list := list) (i := x1) (by assumption) (by omega); omega) | (have hq := PmIn.at (list := list) (i := x2.2) (by assumption) (by omega); omega) | (have hq := PmIn.at (list := list) (i := x2.2) (by assumption) (by omega); dsimp only at *; omega) | (exact PmIn.air (by assumption)) | (dsimp only; omega), by first | omega | assumption | (simp only [List.length_append, List.length_cons, List.length_nil, List.length_replicate, put_len] at * <;> omega) | (have hq := PmIn.at (list := list) (i := x1) (by assumption) (by omega); omega) | (have hq := PmIn.at (list := list) (i := x2.2) (by assumption) (by omega); omega) | (have hq := PmIn.at (list := list) (i := x2.2) (by assumption) (by omega); dsimp only at *; omega) | (exact PmIn.air (by assumption)) | (dsimp only; omega), by first | omega | assumption | (simp only [List.length_append, List.length_cons, List.length_nil, List.length_replicate, put_len] at * <;> omega) | (have hq := PmIn.at (list := list) (i := x1) (by assumption) (by omega); omega) | (have hq := PmIn.at (list := list) (i := x2.2) (by assumption) (by omega); omega) | (have hq := PmIn.at (list := list) (i := x2.2) (by assumption) (by omega); dsimp only at *; omega) | (exact PmIn.air (by assumption)) | (dsimp only; omega)⟩ (sub_of [] ⟨rfl, rfl, rfl, rfl, rfl, trivial⟩ ⟨rfl, rfl, trivial⟩ rfl)

/-! ### laws_toAirway -/
theorem c_laws_toAirway (a : gAirway) : Con Try.prog 67 [.st [.str a.Id, .int .i64 a.From, .int .i64 a.To, .int .i64 a.Length, .int .i64 a.Section, .int .i64 a.Friction, .int .i64 a.Shock]] [] (.st [.str (m_laws_toAirway a).Id, .int .i64 (m_laws_toAirway a).From, .int .i64 (m_laws_toAirway a).To, .int .i64 (m_laws_toAirway a).Length, .int .i64 (m_laws_toAirway a).Section, .int .i64 (m_laws_toAirway a).Friction, .int .i64 (m_laws_toAirway a).Shock]) ([]) := by
  refine con_intro (out := fun r : gAirway => ((.st [.str r.Id, .int .i64 r.From, .int .i64 r.To, .int .i64 r.Length, .int .i64 r.Section, .int .i64 r.Friction, .int .i64 r.Shock] : V), ([] : List (Nat × Option O)))) (r := (m_laws_toAirway a)) Try.func67 rfl Try.ntmps67 rfl ?_
  refine run_seq ?_
  refine run_region (q_box (l := 200) .n rfl (.t rfl) rfl rfl rfl rfl <|
      q_alloc (l := 201) .n rfl zv_74 rfl rfl <|
      Lex.nil) ?_
  refine run_seq ?_
  refine run_region (q_alloc (l := 202) .n rfl zv_74 rfl rfl <|
      Lex.nil) ?_
  refine run_seq ?_
  refine run_region (q_fld_ow .n (.t rfl) fo_99_0 rfl <|
      q_ld1_ow .n (.t rfl) rfl (.inr rfl) (fun _ => rfl) rfl ic_9 rfl <|
      q_fld_ow .n (.t rfl) fo_74_0 rfl <|
      q_st_boxm [.str a.Id, .int .i64 0, .int .i64 0, .int .i64 0, .int .i64 0, .int .i64 0, .int .i64 0] .n rfl (.t rfl) (.t rfl) rfl ts_9 rfl rfl <|
      Lex.nil) ?_
  refine run_seq ?_
  refine run_region (q_fld_ow .n (.t rfl) fo_99_1 rfl <|
      q_ld1_ow .n (.t rfl) rfl (.inr rfl) (fun _ => rfl) rfl ic_2 rfl <|
      q_fld_ow .n (.t rfl) fo_74_1 rfl <|
      q_st_boxm [.str a.Id, .int .i64 a.From, .int .i64 0, .int .i64 0, .int .i64 0, .int .i64 0, .int .i64 0] .n rfl (.t rfl) (.t rfl) rfl ts_2 rfl rfl <|
      Lex.nil) ?_
  refine run_seq ?_
  refine run_region (q_fld_ow .n (.t rfl) fo_99_2 rfl <|
      q_ld1_ow .n (.t rfl) rfl (.inr rfl) (fun _ => rfl) rfl ic_2 rfl <|
      q_fld_ow .n (.t rfl) fo_74_2 rfl <|
      q_st_boxm [.str a.Id, .int .i64 a.From, .int .i64 a.To, .int .i64 0, .int .i64 0, .int .i64 0, .int .i64 0] .n rfl (.t rfl) (.t rfl) rfl ts_2 rfl rfl <|
      Lex.nil) ?_
  refine run_seq ?_
  refine run_region (q_fld_ow .n (.t rfl) fo_99_3 rfl <|
      q_ld1_ow .n (.t rfl) rfl (.inr rfl) (fun _ => rfl) rfl ic_2 rfl <|
      q_fld_ow .n (.t rfl) fo_74_3 rfl <|
      q_st_boxm [.str a.Id, .int .i64 a.From, .int .i64 a.To, .int .i64 a.Length, .int .i64 0, .int .i64 0, .int .i64 0] .n rfl (.t rfl) (.t rfl) rfl ts_2 rfl rfl <|
      Lex.nil) ?_
  refine run_seq ?_
  refine run_region (q_fld_ow .n (.t rfl) fo_99_4 rfl <|
      q_ld1_ow .n (.t rfl) rfl (.inr rfl) (fun _ => rfl) rfl ic_2 rfl <|
      q_fld_ow .n (.t rfl) fo_74_4 rfl <|
      q_st_boxm [.str a.Id, .int .i64 a.From, .int .i64 a.To, .int .i64 a.Length, .int .i64 a.Section, .int .i64 0, .int .i64 0] .n rfl (.t rfl) (.t rfl) rfl ts_2 rfl rfl <|
      Lex.nil) ?_
  refine run_seq ?_
  refine run_region (q_fld_ow .n (.t rfl) fo_99_5 rfl <|
      q_ld1_ow .n (.t rfl) rfl (.inr rfl) (fun _ => rfl) rfl ic_2 rfl <|
      q_fld_ow .n (.t rfl) fo_74_5 rfl <|
      q_st_boxm [.str a.Id, .int .i64 a.From, .int .i64 a.To, .int .i64 a.Length, .int .i64 a.Section, .int .i64 a.Friction, .int .i64 0] .n rfl (.t rfl) (.t rfl) rfl ts_2 rfl rfl <|
      Lex.nil) ?_
  refine run_seq ?_
  refine run_region (q_fld_ow .n (.t rfl) fo_99_6 rfl <|
      q_ld1_ow .n (.t rfl) rfl (.inr rfl) (fun _ => rfl) rfl ic_2 rfl <|
      q_fld_ow .n (.t rfl) fo_74_6 rfl <|
      q_st_boxm [.str a.Id, .int .i64 a.From, .int .i64 a.To, .int .i64 a.Length, .int .i64 a.Section, .int .i64 a.Friction, .int .i64 a.Shock] .n rfl (.t rfl) (.t rfl) rfl ts_2 rfl rfl <|
      Lex.nil) ?_
  refine run_seq ?_
  refine run_region (q_ldN_ow .n (.t rfl) rfl (.inr rfl) ag_74 (fun _ => rfl) rfl rfl <|
      q_st_boxm [.str a.Id, .int .i64 a.From, .int .i64 a.To, .int .i64 a.Length, .int .i64 a.Section, .int .i64 a.Friction, .int .i64 a.Shock] .n rfl (.t rfl) (.t rfl) rfl ts_74 rfl rfl <|
      Lex.nil) ?_
  exact run_ret [] (.cons (.cN rfl rfl ag_74 rfl rfl) .nil) (by first | rfl | (simp only [put_len]; rfl)) trivial rfl

/-! ### laws_toAirwayS -/
theorem c_laws_toAirwayS (a : List gAirway) (hp1 : a.length ≤ 1048576 ∧ ∀ y ∈ a, gAirway.sz y) : Con Try.prog 33 [.sl 7 (a.map gAirway.v)] [] (.os 100 (m_laws_toAirwayS a).length) ([(100, some (.row 74 7 ((m_laws_toAirwayS a).map gAirway.v)))]) := by
  refine con_intro (out := fun r : (List gAirway) => ((.os 100 r.length : V), ([(100, some (.row 74 7 (r.map gAirway.v)))] : List (Nat × Option O)))) (r := (m_laws_toAirwayS a)) Try.func33 rfl Try.ntmps33 rfl ?_
  refine run_fact (t := 0) rfl fun hl => ?_
  have l1 := hl; clear hl; simp only [List.length_map] at l1
  refine run_seq ?_
  refine run_region (q_assign .n (.c rfl) rfl <|
      Lex.nil) ?_
  refine run_seq ?_
  refine run_region (q_move .n (.t rfl) rfl <|
      q_len .n (.t rfl) rfl len_map ss_22 rfl <|
      q_makem (f := gAirway.v) (l := 200) (gAirway.mk ([] : List UInt8) 0 0 0 0 0 0 : gAirway) .n rfl (.t rfl) (.t rfl) si_33 zv_74 (by first | omega | assumption | (simp only [List.length_append, List.length_cons, List.length_nil, List.length_replicate, put_len] at * <;> omega) | (exact hp1.2) | (exact at_all hp1.2 (by omega)) | (exact hp1.1) | (exact hp1)) rfl rfl rfl <|
      q_assign .n (.t rfl) rfl <|
      Lex.nil) ?_
  refine run_seq ?_
  refine run_seq ?_
  refine run_region (q_assign .n (.c rfl) rfl <|
      Lex.nil) ?_
  refine run_block ?_
  refine run_LOOP (m_laws_toAirwayS_b1 a) _ _ _ rfl (fun (x1 : (List gAirway) × Int) => 0 ≤ x1.2 ∧ x1.2 ≤ (a.length : Int) ∧ x1.1.length = (List.replicate ((a.length : Int) : Int).toNat (gAirway.mk ([] : List UInt8) 0 0 0 0 0 0 : gAirway)).length) (fun x1 => 0 ≤ x1.2 ∧ x1.2 ≤ (a.length : Int) ∧ x1.1.length = (List.replicate ((a.length : Int) : Int).toNat (gAirway.mk ([] : List UInt8) 0 0 0 0 0 0 : gAirway)).length ∧ (a.length : Int) ≤ x1.2) (fun x1 => ((a.length : Int) - x1.2 : Int).toNat) (fun x1 => ⟨[(0, some (true, .sl 7 (a.map gAirway.v))), (3, some (true, .os 200 x1.1.length)), (4, some (true, .int .i64 x1.2))], [(200, some (.row 74 7 (x1.1.map gAirway.v)))]⟩) (fun x1 => ⟨[(3, some (true, .os 200 x1.1.length))], [(200, some (.row 74 7 (x1.1.map gAirway.v)))]⟩) ⟨by first | omega | assumption | (simp only [List.length_append, List.length_cons, List.length_nil, List.length_replicate, put_len] at * <;> omega) | (exact hp1.2) | (exact at_all hp1.2 (by omega)) | (exact hp1.1) | (exact hp1), by first | omega | assumption | (simp only [List.length_append, List.length_cons, List.length_nil, List.length_replicate, put_len] at * <;> omega) | (exact hp1.2) | (exact at_all hp1.2 (by omega)) | (exact hp1.1) | (exact hp1), by first | omega | assumption | (simp only [List.length_append, List.length_cons, List.length_nil, List.length_replicate, put_len] at * <;> omega) | (exact hp1.2) | (exact at_all hp1.2 (by omega)) | (exact hp1.1) | (exact hp1)⟩ (by first | omega | assumption | (simp only [List.length_append, List.length_cons, List.length_nil, List.length_replicate, put_len] at * <;> omega) | (exact hp1.2) | (exact at_all hp1.2 (by omega)) | (exact hp1.1) | (exact hp1)) (sub_of [] ⟨rfl, rfl, rfl, trivial⟩ ⟨rfl, trivial⟩ rfl) ?_ ?_
  · intro x1 i5
    obtain ⟨e6, e7, e8, e9⟩ := i5
    try dsimp only at *
    refine run_seq ?_
    refine run_region (q_move .n (.t rfl) rfl <|
        q_assign .n (.t rfl) rfl <|
        Lex.nil) ?_
    exact run_ret [(100, 200)] (.cons (.t rfl rfl) .nil) (by first | rfl | (simp only [put_len]; rfl)) ⟨rfl, trivial⟩ rfl
  · intro rec1 k1 hk2 x1 i3
    obtain ⟨e10, e11, e12⟩ := i3
    try dsimp only at *
    refine run_seq ?_
    refine run_seq ?_
    refine run_region (q_move .n (.t rfl) rfl <|
        q_move .n (.t rfl) rfl <|
        q_len .n (.t rfl) rfl len_map ss_22 rfl <|
        q_int .n (.t rfl) (.t rfl) rfl rfl <|
        Lex.nil) ?_
    refine run_cond (.t rfl) rfl (fun h4 => ?_) (fun h4 => ?_)
    · try simp only [Bool.and_eq_true, Bool.or_eq_true, Bool.not_eq_true', Bool.and_eq_false_iff, Bool.or_eq_false_iff, Bool.not_eq_false', decide_eq_true_eq, decide_eq_false_iff_not, beq_iff_eq, bne_iff_ne, beq_eq_false_iff_ne, bne_eq_false_iff_eq, Bool.true_and, ne_eq, Decidable.not_not, Int.not_lt, Int.not_le, Nat.not_lt, Nat.not_le, strB_nil, strB_nil', strB_nnil, strB_nnil'] at h4
      refine run_skip ?_
      refine run_seq ?_
      refine run_block ?_
      refine run_region (q_move .n (.t rfl) rfl <|
          q_move .n (.t rfl) rfl <|
          q_move .n (.t rfl) rfl <|
          q_move .n (.t rfl) rfl <|
          q_idx_rm .n (.t rfl) (.t rfl) sl_22 (fun _ => by first | omega | assumption | (simp only [List.length_append, List.length_cons, List.length_nil, List.length_replicate, put_len] at * <;> omega) | (exact hp1.2) | (exact at_all hp1.2 (by omega)) | (exact hp1.1) | (exact hp1)) rfl <|
          q_ldN_ro .n (.t rfl) ag_99 rfl rfl rfl <|
          q_call0 (full := false) .n .f en_67 (.cons (.t rfl) .nil) (.cons (.sts rfl) .nil) (fun hg => c_laws_toAirway (at' a x1.2)) rfl (fun h => Bool.noConfusion h) rfl <|
          q_idx_ow .n (.t rfl) (.t rfl) sl_33 (fun _ => by first | omega | assumption | (simp only [List.length_append, List.length_cons, List.length_nil, List.length_replicate, put_len] at * <;> omega) | (exact hp1.2) | (exact at_all hp1.2 (by omega)) | (exact hp1.1) | (exact hp1)) rfl <|
          q_st_rowm (m_laws_toAirway (at' a x1.2)) .n rfl (.t rfl) (.t rfl) rfl ts_74 (by first | omega | assumption | (simp only [List.length_append, List.length_cons, List.length_nil, List.length_replicate, put_len] at * <;> omega) | (exact hp1.2) | (exact at_all hp1.2 (by omega)) | (exact hp1.1) | (exact hp1)) rfl rfl <|
          Lex.nil) ?_
      refine run_endB ?_
      refine run_region (q_move .n (.t rfl) rfl <|
          q_add .n (.t rfl) (.c rfl) (fun _ => by first | omega | assumption | (simp only [List.length_append, List.length_cons, List.length_nil, List.length_replicate, put_len] at * <;> omega) | (exact hp1.2) | (exact at_all hp1.2 (by omega)) | (exact hp1.1) | (exact hp1)) rfl <|
          q_assign .n (.t rfl) rfl <|
          Lex.nil) ?_
      exact run_again (put' x1.1 x1.2 (m_laws_toAirway (at' a x1.2)), x1.2 + 1) ⟨by first | omega | assumption | (simp only [List.length_append, List.length_cons, List.length_nil, List.length_replicate, put_len] at * <;> omega) | (exact hp1.2) | (exact at_all hp1.2 (by omega)) | (exact hp1.1) | (exact hp1), by first | omega | assumption | (simp only [List.length_append, List.length_cons, List.length_nil, List.length_replicate, put_len] at * <;> omega) | (exact hp1.2) | (exact at_all hp1.2 (by omega)) | (exact hp1.1) | (exact hp1), by first | omega | assumption | (simp only [List.length_append, List.length_cons, List.length_nil, List.length_replicate, put_len] at * <;> omega) | (exact hp1.2) | (exact at_all hp1.2 (by omega)) | (exact hp1.1) | (exact hp1)⟩ (by first | omega | assumption | (simp only [List.length_append, List.length_cons, List.length_nil, List.length_replicate, put_len] at * <;> omega) | (exact hp1.2) | (exact at_all hp1.2 (by omega)) | (exact hp1.1) | (exact hp1)) (sub_of [] ⟨rfl, os_len rfl (by first | (simp only [put_len]; done) | (first | omega | assumption | (simp only [List.length_append, List.length_cons, List.length_nil, List.length_replicate, put_len] at * <;> omega) | (exact hp1.2) | (exact at_all hp1.2 (by omega)) | (exact hp1.1) | (exact hp1))), rfl, trivial⟩ ⟨rfl, trivial⟩ rfl)
    · try simp only [Bool.and_eq_true, Bool.or_eq_true, Bool.not_eq_true', Bool.and_eq_false_iff, Bool.or_eq_false_iff, Bool.not_eq_false', decide_eq_true_eq, decide_eq_false_iff_not, beq_iff_eq, bne_iff_ne, beq_eq_false_iff_ne, bne_eq_false_iff_eq, Bool.true_and, ne_eq, Decidable.not_not, Int.not_lt, Int.not_le, Nat.not_lt, Nat.not_le, strB_nil, strB_nil', strB_nnil, strB_nnil'] at h4
      refine run_exit rfl ?_
      exact run_cont hk2 (x1.1, x1.2) ⟨by first | omega | assumption | (simp only [List.length_append, List.length_cons, List.length_nil, List.length_replicate, put_len] at * <;> omega) | (exact hp1.2) | (exact at_all hp1.2 (by omega)) | (exact hp1.1) | (exact hp1), by first | omega | assumption | (simp only [List.length_append, List.length_cons, List.length_nil, List.length_replicate, put_len] at * <;> omega) | (exact hp1.2) | (exact at_all hp1.2 (by omega)) | (exact hp1.1) | (exact hp1), by first | omega | assumption | (simp only [List.length_append, List.length_cons, List.length_nil, List.length_replicate, put_len] at * <;> omega) | (exact hp1.2) | (exact at_all hp1.2 (by omega)) | (exact hp1.1) | (exact hp1), by first | omega | assumption | (simp only [List.length_append, List.length_cons, List.length_nil, List.length_replicate, put_len] at * <;> omega) | (exact hp1.2) | (exact at_all hp1.2 (by omega)) | (exact hp1.1) | (exact hp1)⟩ (sub_of [] ⟨rfl, trivial⟩ ⟨rfl, trivial⟩ rfl)

/-! ### laws_toMine -/
theorem c_laws_toMine (a : gMine) (hp1 : gMine.sz a) : Con Try.prog 10 [.st [.int .i64 a.Junctions, .sl 7 (a.Airways.map gAirway.v)]] [] (.st [.int .i64 (m_laws_toMine a).Junctions, .os 100 (m_laws_toMine a).Airways.length]) ([(100, some (.row 74 7 ((m_laws_toMine a).Airways.map gAirway.v)))]) := by
  refine con_intro (out := fun r : gMine => ((.st [.int .i64 r.Junctions, .os 100 r.Airways.length] : V), ([(100, some (.row 74 7 (r.Airways.map gAirway.v)))] : List (Nat × Option O)))) (r := (m_laws_toMine a)) Try.func10 rfl Try.ntmps10 rfl ?_
  refine run_factS (t := 0) 1 rfl rfl fun hl => ?_
  have l1 := hl; clear hl; simp only [List.length_map] at l1
  refine run_seq ?_
  refine run_region (q_box (l := 200) .n rfl (.t rfl) rfl rfl rfl rfl <|
      q_alloc (l := 201) .n rfl zv_35 rfl rfl <|
      Lex.nil) ?_
  refine run_seq ?_
  refine run_region (q_alloc (l := 202) .n rfl zv_35 rfl rfl <|
      Lex.nil) ?_
  refine run_seq ?_
  refine run_region (q_fld_ow .n (.t rfl) fo_24_0 rfl <|
      q_ld1_ow .n (.t rfl) rfl (.inr rfl) (fun _ => rfl) rfl ic_2 rfl <|
      q_fld_ow .n (.t rfl) fo_35_0 rfl <|
      q_st_boxm [.int .i64 a.Junctions, .nls] .n rfl (.t rfl) (.t rfl) rfl ts_2 rfl rfl <|
      Lex.nil) ?_
  refine run_seq ?_
  refine run_region (q_fld_ow .n (.t rfl) fo_24_1 rfl <|
      q_ld1_ow .n (.t rfl) rfl (.inr rfl) (fun _ => rfl) rfl ic_22 rfl <|
      q_callM (full := false) [] [(100, 203)] .n rfl .f en_33 (.cons (.t rfl) .nil) (.cons (.b (.a (.same rfl))) .nil) (c_laws_toAirwayS a.Airways (by first | omega | assumption | (simp only [List.length_append, List.length_cons, List.length_nil, List.length_replicate, put_len] at * <;> omega) | (exact hp1.2) | (exact at_all hp1.2 (by omega)) | (exact hp1.1) | (exact hp1))) trivial rfl rfl (fun h => Bool.noConfusion h) (fun h => Bool.noConfusion h) rfl <|
      q_fld_ow .n (.t rfl) fo_35_1 rfl <|
      q_st_boxm [.int .i64 a.Junctions, .os 203 (m_laws_toAirwayS a.Airways).length] .n rfl (.t rfl) (.t rfl) rfl ts_33 rfl rfl <|
      Lex.nil) ?_
  refine run_seq ?_
  refine run_region (q_ldN_ow .n (.t rfl) rfl (.inr rfl) ag_35 (fun _ => rfl) rfl rfl <|
      q_st_boxm [.int .i64 a.Junctions, .os 203 (m_laws_toAirwayS a.Airways).length] .n rfl (.t rfl) (.t rfl) rfl ts_35 rfl rfl <|
      Lex.nil) ?_
  exact run_ret [(100, 203)] (.cons (.cN rfl rfl ag_35 rfl rfl) .nil) (by first | rfl | (simp only [put_len]; rfl)) ⟨rfl, trivial⟩ rfl

/-! ### laws_toPermit -/
theorem c_laws_toPermit (a : gPermit) : Con Try.prog 12 [.st [.str a.Id, .int .i64 a.Kind, .int .i64 a.Airway, .int .i64 a.From, .int .i64 a.Until]] [] (.st [.str (m_laws_toPermit a).Id, .int .i64 (m_laws_toPermit a).Kind, .int .i64 (m_laws_toPermit a).Airway, .int .i64 (m_laws_toPermit a).From, .int .i64 (m_laws_toPermit a).Until]) ([]) := by
  refine con_intro (out := fun r : gPermit => ((.st [.str r.Id, .int .i64 r.Kind, .int .i64 r.Airway, .int .i64 r.From, .int .i64 r.Until] : V), ([] : List (Nat × Option O)))) (r := (m_laws_toPermit a)) Try.func12 rfl Try.ntmps12 rfl ?_
  refine run_seq ?_
  refine run_region (q_box (l := 200) .n rfl (.t rfl) rfl rfl rfl rfl <|
      q_alloc (l := 201) .n rfl zv_39 rfl rfl <|
      Lex.nil) ?_
  refine run_seq ?_
  refine run_region (q_alloc (l := 202) .n rfl zv_39 rfl rfl <|
      Lex.nil) ?_
  refine run_seq ?_
  refine run_region (q_fld_ow .n (.t rfl) fo_27_0 rfl <|
      q_ld1_ow .n (.t rfl) rfl (.inr rfl) (fun _ => rfl) rfl ic_9 rfl <|
      q_fld_ow .n (.t rfl) fo_39_0 rfl <|
      q_st_boxm [.str a.Id, .int .i64 0, .int .i64 0, .int .i64 0, .int .i64 0] .n rfl (.t rfl) (.t rfl) rfl ts_9 rfl rfl <|
      Lex.nil) ?_
  refine run_seq ?_
  refine run_region (q_fld_ow .n (.t rfl) fo_27_1 rfl <|
      q_ld1_ow .n (.t rfl) rfl (.inr rfl) (fun _ => rfl) rfl ic_2 rfl <|
      q_fld_ow .n (.t rfl) fo_39_1 rfl <|
      q_st_boxm [.str a.Id, .int .i64 a.Kind, .int .i64 0, .int .i64 0, .int .i64 0] .n rfl (.t rfl) (.t rfl) rfl ts_2 rfl rfl <|
      Lex.nil) ?_
  refine run_seq ?_
  refine run_region (q_fld_ow .n (.t rfl) fo_27_2 rfl <|
      q_ld1_ow .n (.t rfl) rfl (.inr rfl) (fun _ => rfl) rfl ic_2 rfl <|
      q_fld_ow .n (.t rfl) fo_39_2 rfl <|
      q_st_boxm [.str a.Id, .int .i64 a.Kind, .int .i64 a.Airway, .int .i64 0, .int .i64 0] .n rfl (.t rfl) (.t rfl) rfl ts_2 rfl rfl <|
      Lex.nil) ?_
  refine run_seq ?_
  refine run_region (q_fld_ow .n (.t rfl) fo_27_3 rfl <|
      q_ld1_ow .n (.t rfl) rfl (.inr rfl) (fun _ => rfl) rfl ic_2 rfl <|
      q_fld_ow .n (.t rfl) fo_39_3 rfl <|
      q_st_boxm [.str a.Id, .int .i64 a.Kind, .int .i64 a.Airway, .int .i64 a.From, .int .i64 0] .n rfl (.t rfl) (.t rfl) rfl ts_2 rfl rfl <|
      Lex.nil) ?_
  refine run_seq ?_
  refine run_region (q_fld_ow .n (.t rfl) fo_27_4 rfl <|
      q_ld1_ow .n (.t rfl) rfl (.inr rfl) (fun _ => rfl) rfl ic_2 rfl <|
      q_fld_ow .n (.t rfl) fo_39_4 rfl <|
      q_st_boxm [.str a.Id, .int .i64 a.Kind, .int .i64 a.Airway, .int .i64 a.From, .int .i64 a.Until] .n rfl (.t rfl) (.t rfl) rfl ts_2 rfl rfl <|
      Lex.nil) ?_
  refine run_seq ?_
  refine run_region (q_ldN_ow .n (.t rfl) rfl (.inr rfl) ag_39 (fun _ => rfl) rfl rfl <|
      q_st_boxm [.str a.Id, .int .i64 a.Kind, .int .i64 a.Airway, .int .i64 a.From, .int .i64 a.Until] .n rfl (.t rfl) (.t rfl) rfl ts_39 rfl rfl <|
      Lex.nil) ?_
  exact run_ret [] (.cons (.cN rfl rfl ag_39 rfl rfl) .nil) (by first | rfl | (simp only [put_len]; rfl)) trivial rfl

/-! ### laws_toPermitS -/
theorem c_laws_toPermitS (a : List gPermit) (hp1 : a.length ≤ 1048576 ∧ ∀ y ∈ a, gPermit.sz y) : Con Try.prog 11 [.sl 5 (a.map gPermit.v)] [] (.os 100 (m_laws_toPermitS a).length) ([(100, some (.row 39 5 ((m_laws_toPermitS a).map gPermit.v)))]) := by
  refine con_intro (out := fun r : (List gPermit) => ((.os 100 r.length : V), ([(100, some (.row 39 5 (r.map gPermit.v)))] : List (Nat × Option O)))) (r := (m_laws_toPermitS a)) Try.func11 rfl Try.ntmps11 rfl ?_
  refine run_fact (t := 0) rfl fun hl => ?_
  have l1 := hl; clear hl; simp only [List.length_map] at l1
  refine run_seq ?_
  refine run_region (q_assign .n (.c rfl) rfl <|
      Lex.nil) ?_
  refine run_seq ?_
  refine run_region (q_move .n (.t rfl) rfl <|
      q_len .n (.t rfl) rfl len_map ss_25 rfl <|
      q_makem (f := gPermit.v) (l := 200) (gPermit.mk ([] : List UInt8) 0 0 0 0 : gPermit) .n rfl (.t rfl) (.t rfl) si_37 zv_39 (by first | omega | assumption | (simp only [List.length_append, List.length_cons, List.length_nil, List.length_replicate, put_len] at * <;> omega) | (exact hp1.2) | (exact at_all hp1.2 (by omega)) | (exact hp1.1) | (exact hp1)) rfl rfl rfl <|
      q_assign .n (.t rfl) rfl <|
      Lex.nil) ?_
  refine run_seq ?_
  refine run_seq ?_
  refine run_region (q_assign .n (.c rfl) rfl <|
      Lex.nil) ?_
  refine run_block ?_
  refine run_LOOP (m_laws_toPermitS_b1 a) _ _ _ rfl (fun (x1 : (List gPermit) × Int) => 0 ≤ x1.2 ∧ x1.2 ≤ (a.length : Int) ∧ x1.1.length = (List.replicate ((a.length : Int) : Int).toNat (gPermit.mk ([] : List UInt8) 0 0 0 0 : gPermit)).length) (fun x1 => 0 ≤ x1.2 ∧ x1.2 ≤ (a.length : Int) ∧ x1.1.length = (List.replicate ((a.length : Int) : Int).toNat (gPermit.mk ([] : List UInt8) 0 0 0 0 : gPermit)).length ∧ (a.length : Int) ≤ x1.2) (fun x1 => ((a.length : Int) - x1.2 : Int).toNat) (fun x1 => ⟨[(0, some (true, .sl 5 (a.map gPermit.v))), (3, some (true, .os 200 x1.1.length)), (4, some (true, .int .i64 x1.2))], [(200, some (.row 39 5 (x1.1.map gPermit.v)))]⟩) (fun x1 => ⟨[(3, some (true, .os 200 x1.1.length))], [(200, some (.row 39 5 (x1.1.map gPermit.v)))]⟩) ⟨by first | omega | assumption | (simp only [List.length_append, List.length_cons, List.length_nil, List.length_replicate, put_len] at * <;> omega) | (exact hp1.2) | (exact at_all hp1.2 (by omega)) | (exact hp1.1) | (exact hp1), by first | omega | assumption | (simp only [List.length_append, List.length_cons, List.length_nil, List.length_replicate, put_len] at * <;> omega) | (exact hp1.2) | (exact at_all hp1.2 (by omega)) | (exact hp1.1) | (exact hp1), by first | omega | assumption | (simp only [List.length_append, List.length_cons, List.length_nil, List.length_replicate, put_len] at * <;> omega) | (exact hp1.2) | (exact at_all hp1.2 (by omega)) | (exact hp1.1) | (exact hp1)⟩ (by first | omega | assumption | (simp only [List.length_append, List.length_cons, List.length_nil, List.length_replicate, put_len] at * <;> omega) | (exact hp1.2) | (exact at_all hp1.2 (by omega)) | (exact hp1.1) | (exact hp1)) (sub_of [] ⟨rfl, rfl, rfl, trivial⟩ ⟨rfl, trivial⟩ rfl) ?_ ?_
  · intro x1 i5
    obtain ⟨e6, e7, e8, e9⟩ := i5
    try dsimp only at *
    refine run_seq ?_
    refine run_region (q_move .n (.t rfl) rfl <|
        q_assign .n (.t rfl) rfl <|
        Lex.nil) ?_
    exact run_ret [(100, 200)] (.cons (.t rfl rfl) .nil) (by first | rfl | (simp only [put_len]; rfl)) ⟨rfl, trivial⟩ rfl
  · intro rec1 k1 hk2 x1 i3
    obtain ⟨e10, e11, e12⟩ := i3
    try dsimp only at *
    refine run_seq ?_
    refine run_seq ?_
    refine run_region (q_move .n (.t rfl) rfl <|
        q_move .n (.t rfl) rfl <|
        q_len .n (.t rfl) rfl len_map ss_25 rfl <|
        q_int .n (.t rfl) (.t rfl) rfl rfl <|
        Lex.nil) ?_
    refine run_cond (.t rfl) rfl (fun h4 => ?_) (fun h4 => ?_)
    · try simp only [Bool.and_eq_true, Bool.or_eq_true, Bool.not_eq_true', Bool.and_eq_false_iff, Bool.or_eq_false_iff, Bool.not_eq_false', decide_eq_true_eq, decide_eq_false_iff_not, beq_iff_eq, bne_iff_ne, beq_eq_false_iff_ne, bne_eq_false_iff_eq, Bool.true_and, ne_eq, Decidable.not_not, Int.not_lt, Int.not_le, Nat.not_lt, Nat.not_le, strB_nil, strB_nil', strB_nnil, strB_nnil'] at h4
      refine run_skip ?_
      refine run_seq ?_
      refine run_block ?_
      refine run_region (q_move .n (.t rfl) rfl <|
          q_move .n (.t rfl) rfl <|
          q_move .n (.t rfl) rfl <|
          q_move .n (.t rfl) rfl <|
          q_idx_rm .n (.t rfl) (.t rfl) sl_25 (fun _ => by first | omega | assumption | (simp only [List.length_append, List.length_cons, List.length_nil, List.length_replicate, put_len] at * <;> omega) | (exact hp1.2) | (exact at_all hp1.2 (by omega)) | (exact hp1.1) | (exact hp1)) rfl <|
          q_ldN_ro .n (.t rfl) ag_27 rfl rfl rfl <|
          q_call0 (full := false) .n .f en_12 (.cons (.t rfl) .nil) (.cons (.sts rfl) .nil) (fun hg => c_laws_toPermit (at' a x1.2)) rfl (fun h => Bool.noConfusion h) rfl <|
          q_idx_ow .n (.t rfl) (.t rfl) sl_37 (fun _ => by first | omega | assumption | (simp only [List.length_append, List.length_cons, List.length_nil, List.length_replicate, put_len] at * <;> omega) | (exact hp1.2) | (exact at_all hp1.2 (by omega)) | (exact hp1.1) | (exact hp1)) rfl <|
          q_st_rowm (m_laws_toPermit (at' a x1.2)) .n rfl (.t rfl) (.t rfl) rfl ts_39 (by first | omega | assumption | (simp only [List.length_append, List.length_cons, List.length_nil, List.length_replicate, put_len] at * <;> omega) | (exact hp1.2) | (exact at_all hp1.2 (by omega)) | (exact hp1.1) | (exact hp1)) rfl rfl <|
          Lex.nil) ?_
      refine run_endB ?_
      refine run_region (q_move .n (.t rfl) rfl <|
          q_add .n (.t rfl) (.c rfl) (fun _ => by first | omega | assumption | (simp only [List.length_append, List.length_cons, List.length_nil, List.length_replicate, put_len] at * <;> omega) | (exact hp1.2) | (exact at_all hp1.2 (by omega)) | (exact hp1.1) | (exact hp1)) rfl <|
          q_assign .n (.t rfl) rfl <|
          Lex.nil) ?_
      exact run_again (put' x1.1 x1.2 (m_laws_toPermit (at' a x1.2)), x1.2 + 1) ⟨by first | omega | assumption | (simp only [List.length_append, List.length_cons, List.length_nil, List.length_replicate, put_len] at * <;> omega) | (exact hp1.2) | (exact at_all hp1.2 (by omega)) | (exact hp1.1) | (exact hp1), by first | omega | assumption | (simp only [List.length_append, List.length_cons, List.length_nil, List.length_replicate, put_len] at * <;> omega) | (exact hp1.2) | (exact at_all hp1.2 (by omega)) | (exact hp1.1) | (exact hp1), by first | omega | assumption | (simp only [List.length_append, List.length_cons, List.length_nil, List.length_replicate, put_len] at * <;> omega) | (exact hp1.2) | (exact at_all hp1.2 (by omega)) | (exact hp1.1) | (exact hp1)⟩ (by first | omega | assumption | (simp only [List.length_append, List.length_cons, List.length_nil, List.length_replicate, put_len] at * <;> omega) | (exact hp1.2) | (exact at_all hp1.2 (by omega)) | (exact hp1.1) | (exact hp1)) (sub_of [] ⟨rfl, os_len rfl (by first | (simp only [put_len]; done) | (first | omega | assumption | (simp only [List.length_append, List.length_cons, List.length_nil, List.length_replicate, put_len] at * <;> omega) | (exact hp1.2) | (exact at_all hp1.2 (by omega)) | (exact hp1.1) | (exact hp1))), rfl, trivial⟩ ⟨rfl, trivial⟩ rfl)
    · try simp only [Bool.and_eq_true, Bool.or_eq_true, Bool.not_eq_true', Bool.and_eq_false_iff, Bool.or_eq_false_iff, Bool.not_eq_false', decide_eq_true_eq, decide_eq_false_iff_not, beq_iff_eq, bne_iff_ne, beq_eq_false_iff_ne, bne_eq_false_iff_eq, Bool.true_and, ne_eq, Decidable.not_not, Int.not_lt, Int.not_le, Nat.not_lt, Nat.not_le, strB_nil, strB_nil', strB_nnil, strB_nnil'] at h4
      refine run_exit rfl ?_
      exact run_cont hk2 (x1.1, x1.2) ⟨by first | omega | assumption | (simp only [List.length_append, List.length_cons, List.length_nil, List.length_replicate, put_len] at * <;> omega) | (exact hp1.2) | (exact at_all hp1.2 (by omega)) | (exact hp1.1) | (exact hp1), by first | omega | assumption | (simp only [List.length_append, List.length_cons, List.length_nil, List.length_replicate, put_len] at * <;> omega) | (exact hp1.2) | (exact at_all hp1.2 (by omega)) | (exact hp1.1) | (exact hp1), by first | omega | assumption | (simp only [List.length_append, List.length_cons, List.length_nil, List.length_replicate, put_len] at * <;> omega) | (exact hp1.2) | (exact at_all hp1.2 (by omega)) | (exact hp1.1) | (exact hp1), by first | omega | assumption | (simp only [List.length_append, List.length_cons, List.length_nil, List.length_replicate, put_len] at * <;> omega) | (exact hp1.2) | (exact at_all hp1.2 (by omega)) | (exact hp1.1) | (exact hp1)⟩ (sub_of [] ⟨rfl, trivial⟩ ⟨rfl, trivial⟩ rfl)

/-! ### impl_within -/
theorem c_impl_within (n_ : Int) (low : Int) (high : Int) : Con Try.prog 49 [.int .i64 n_, .int .i64 low, .int .i64 high] [] (.bool (m_impl_within n_ low high)) ([]) := by
  refine con_intro (out := fun r : Bool => ((.bool r : V), ([] : List (Nat × Option O)))) (r := (m_impl_within n_ low high)) Try.func49 rfl Try.ntmps49 rfl ?_
  refine run_seq ?_
  refine run_region (q_assign .n (.c rfl) rfl <|
      Lex.nil) ?_
  refine run_seq ?_
  refine run_region (q_move .n (.t rfl) rfl <|
      q_move .n (.t rfl) rfl <|
      q_int .n (.t rfl) (.t rfl) rfl rfl <|
      q_move .n (.t rfl) rfl <|
      q_move (.t rfl rfl) (.t rfl) rfl <|
      q_move (.t rfl rfl) (.t rfl) rfl <|
      q_int (.t rfl rfl) (.u rfl id) (.u rfl id) rfl rfl <|
      q_and .n (.t rfl) (.u rfl id) rfl <|
      q_assign .n (.t rfl) rfl <|
      Lex.nil) ?_
  exact run_ret [] (.cons (.t rfl rfl) .nil) rfl trivial rfl

/-! ### impl_onlyNameBytes -/
theorem c_impl_onlyNameBytes (s_ : List UInt8) (hp1 : s_.length ≤ 10) : Con Try.prog 91 [.str s_] [] (.bool (m_impl_onlyNameBytes s_)) ([]) := by
  refine con_intro (out := fun r : Bool => ((.bool r : V), ([] : List (Nat × Option O)))) (r := (m_impl_onlyNameBytes s_)) Try.func91 rfl Try.ntmps91 rfl ?_
  refine run_seq ?_
  refine run_region (q_assign .n (.c rfl) rfl <|
      Lex.nil) ?_
  refine run_seq ?_
  refine run_seq ?_
  refine run_region (q_move .n (.t rfl) rfl <|
      q_len .n (.t rfl) rfl rfl st_9 rfl <|
      q_move .n (.c rfl) rfl <|
      Lex.nil) ?_
  refine run_block ?_
  refine run_LOOP (m_impl_onlyNameBytes_b1 s_) _ _ _ rfl (fun (x1 : Int) => 0 ≤ x1 ∧ x1 ≤ (s_.length : Int)) (fun x1 => 0 ≤ x1 ∧ x1 ≤ (s_.length : Int) ∧ (s_.length : Int) ≤ x1) (fun x1 => ((s_.length : Int) - x1 : Int).toNat) (fun x1 => ⟨[(0, some (true, .str s_)), (6, some (true, .int .i64 (s_.length : Int))), (7, some (true, .int .i64 x1))], []⟩) (fun x1 => ⟨[], []⟩) ⟨by first | omega | assumption | (simp only [List.length_append, List.length_cons, List.length_nil, List.length_replicate, put_len] at * <;> omega), by first | omega | assumption | (simp only [List.length_append, List.length_cons, List.length_nil, List.length_replicate, put_len] at * <;> omega)⟩ (by first | omega | assumption | (simp only [List.length_append, List.length_cons, List.length_nil, List.length_replicate, put_len] at * <;> omega)) (sub_of [] ⟨rfl, rfl, rfl, trivial⟩ trivial rfl) ?_ ?_
  · intro x1 i5
    obtain ⟨e6, e7, e8⟩ := i5
    try dsimp only at *
    refine run_seq ?_
    refine run_region (q_assign .n (.c rfl) rfl <|
        Lex.nil) ?_
    exact run_ret [] (.cons (.t rfl rfl) .nil) rfl trivial rfl
  · intro rec1 k1 hk1 x1 i2
    obtain ⟨e9, e10⟩ := i2
    try dsimp only at *
    refine run_seq ?_
    refine run_region (q_int .n (.t rfl) (.t rfl) rfl rfl <|
        Lex.nil) ?_
    refine run_seq ?_
    refine run_cond (.t rfl) rfl (fun h3 => ?_) (fun h3 => ?_)
    · try simp only [Bool.and_eq_true, Bool.or_eq_true, Bool.not_eq_true', Bool.and_eq_false_iff, Bool.or_eq_false_iff, Bool.not_eq_false', decide_eq_true_eq, decide_eq_false_iff_not, beq_iff_eq, bne_iff_ne, beq_eq_false_iff_ne, bne_eq_false_iff_eq, Bool.true_and, ne_eq, Decidable.not_not, Int.not_lt, Int.not_le, Nat.not_lt, Nat.not_le, strB_nil, strB_nil', strB_nnil, strB_nnil'] at h3
      refine run_skip ?_
      refine run_seq ?_
      refine run_block ?_
      refine run_seq ?_
      refine run_region (q_move .n (.t rfl) rfl <|
          q_assign .n (.t rfl) rfl <|
          Lex.nil) ?_
      refine run_seq ?_
      refine run_region (q_move .n (.t rfl) rfl <|
          q_move .n (.t rfl) rfl <|
          q_strat .n (.t rfl) (.t rfl) st_9 (fun _ => by first | omega | assumption | (simp only [List.length_append, List.length_cons, List.length_nil, List.length_replicate, put_len] at * <;> omega)) rfl <|
          q_assign .n (.t rfl) rfl <|
          Lex.nil) ?_
      refine run_seq ?_
      refine run_region (q_move .n (.t rfl) rfl <|
          q_int .n (.t rfl) (.c rfl) rfl rfl <|
          q_move .n (.t rfl) rfl <|
          q_move (.f rfl rfl) (.t rfl) rfl <|
          q_int (.f rfl rfl) (.u rfl id) (.c rfl) rfl rfl <|
          q_or .n (.t rfl) (.u rfl id) rfl <|
          q_move .n (.t rfl) rfl <|
          q_move (.t rfl rfl) (.t rfl) rfl <|
          q_int (.t rfl rfl) (.u rfl id) (.c rfl) rfl rfl <|
          q_move (.t rfl rfl) (.u rfl id) rfl <|
          q_move (.f rfl rfl) (.t rfl) rfl <|
          q_int (.f rfl rfl) (.u rfl id) (.c rfl) rfl rfl <|
          q_or (.t rfl rfl) (.u rfl id) (.u rfl id) rfl <|
          q_and .n (.t rfl) (.u rfl id) rfl <|
          Lex.nil) ?_
      refine run_cond (.t rfl) rfl (fun h4 => ?_) (fun h4 => ?_)
      · try simp only [Bool.and_eq_true, Bool.or_eq_true, Bool.not_eq_true', Bool.and_eq_false_iff, Bool.or_eq_false_iff, Bool.not_eq_false', decide_eq_true_eq, decide_eq_false_iff_not, beq_iff_eq, bne_iff_ne, beq_eq_false_iff_ne, bne_eq_false_iff_eq, Bool.true_and, ne_eq, Decidable.not_not, Int.not_lt, Int.not_le, Nat.not_lt, Nat.not_le, strB_nil, strB_nil', strB_nnil, strB_nnil'] at h4
        refine run_seq ?_
        refine run_region (q_assign .n (.c rfl) rfl <|
            Lex.nil) ?_
        exact run_ret [] (.cons (.t rfl rfl) .nil) rfl trivial rfl
      · try simp only [Bool.and_eq_true, Bool.or_eq_true, Bool.not_eq_true', Bool.and_eq_false_iff, Bool.or_eq_false_iff, Bool.not_eq_false', decide_eq_true_eq, decide_eq_false_iff_not, beq_iff_eq, bne_iff_ne, beq_eq_false_iff_ne, bne_eq_false_iff_eq, Bool.true_and, ne_eq, Decidable.not_not, Int.not_lt, Int.not_le, Nat.not_lt, Nat.not_le, strB_nil, strB_nil', strB_nnil, strB_nnil'] at h4
        refine run_skip ?_
        refine run_endB ?_
        refine run_region (q_add .n (.t rfl) (.c rfl) (fun _ => by first | omega | assumption | (simp only [List.length_append, List.length_cons, List.length_nil, List.length_replicate, put_len] at * <;> omega)) rfl <|
            q_move .n (.t rfl) rfl <|
            Lex.nil) ?_
        exact run_again (x1 + 1) ⟨by first | omega | assumption | (simp only [List.length_append, List.length_cons, List.length_nil, List.length_replicate, put_len] at * <;> omega), by first | omega | assumption | (simp only [List.length_append, List.length_cons, List.length_nil, List.length_replicate, put_len] at * <;> omega)⟩ (by first | omega | assumption | (simp only [List.length_append, List.length_cons, List.length_nil, List.length_replicate, put_len] at * <;> omega)) (sub_of [] ⟨rfl, rfl, rfl, trivial⟩ trivial rfl)
    · try simp only [Bool.and_eq_true, Bool.or_eq_true, Bool.not_eq_true', Bool.and_eq_false_iff, Bool.or_eq_false_iff, Bool.not_eq_false', decide_eq_true_eq, decide_eq_false_iff_not, beq_iff_eq, bne_iff_ne, beq_eq_false_iff_ne, bne_eq_false_iff_eq, Bool.true_and, ne_eq, Decidable.not_not, Int.not_lt, Int.not_le, Nat.not_lt, Nat.not_le, strB_nil, strB_nil', strB_nnil, strB_nnil'] at h3
      refine run_exit rfl ?_
      exact run_cont hk1 x1 ⟨by first | omega | assumption | (simp only [List.length_append, List.length_cons, List.length_nil, List.length_replicate, put_len] at * <;> omega), by first | omega | assumption | (simp only [List.length_append, List.length_cons, List.length_nil, List.length_replicate, put_len] at * <;> omega), by first | omega | assumption | (simp only [List.length_append, List.length_cons, List.length_nil, List.length_replicate, put_len] at * <;> omega)⟩ (sub_of [] trivial trivial rfl)

/-! ### impl_IsName -/
theorem c_impl_IsName (s_ : List UInt8) : Con Try.prog 69 [.str s_] [] (.bool (m_impl_IsName s_)) ([]) := by
  refine con_intro (out := fun r : Bool => ((.bool r : V), ([] : List (Nat × Option O)))) (r := (m_impl_IsName s_)) Try.func69 rfl Try.ntmps69 rfl ?_
  refine run_seq ?_
  refine run_region (q_assign .n (.c rfl) rfl <|
      Lex.nil) ?_
  refine run_seq ?_
  refine run_seq ?_
  refine run_region (q_move .n (.t rfl) rfl <|
      q_len .n (.t rfl) rfl rfl st_9 rfl <|
      q_int .n (.t rfl) (.c rfl) rfl rfl <|
      q_move .n (.t rfl) rfl <|
      q_move (.f rfl rfl) (.t rfl) rfl <|
      q_len (.f rfl rfl) (.u rfl id) rfl rfl st_9 rfl <|
      q_int (.f rfl rfl) (.u rfl id) (.c rfl) rfl rfl <|
      q_or .n (.t rfl) (.u rfl id) rfl <|
      q_move .n (.t rfl) rfl <|
      q_move (.f rfl rfl) (.t rfl) rfl <|
      q_strat (.f rfl rfl) (.u rfl id) (.c rfl) st_9 (fun hg => by simp only [Bool.and_eq_true, Bool.or_eq_true, Bool.not_eq_true', Bool.and_eq_false_iff, Bool.or_eq_false_iff, Bool.not_eq_false', decide_eq_true_eq, decide_eq_false_iff_not, beq_iff_eq, bne_iff_ne, beq_eq_false_iff_ne, bne_eq_false_iff_eq, Bool.true_and, ne_eq, Decidable.not_not, Int.not_lt, Int.not_le, Nat.not_lt, Nat.not_le, strB_nil, strB_nil', strB_nnil, strB_nnil'] at hg; first | omega | assumption | (simp only [List.length_append, List.length_cons, List.length_nil, List.length_replicate, put_len] at * <;> omega)) rfl <|
      q_int (.f rfl rfl) (.u rfl id) (.c rfl) rfl rfl <|
      q_or .n (.t rfl) (.u rfl id) rfl <|
      q_move .n (.t rfl) rfl <|
      q_move (.f rfl rfl) (.t rfl) rfl <|
      q_strat (.f rfl rfl) (.u rfl id) (.c rfl) st_9 (fun hg => by simp only [Bool.and_eq_true, Bool.or_eq_true, Bool.not_eq_true', Bool.and_eq_false_iff, Bool.or_eq_false_iff, Bool.not_eq_false', decide_eq_true_eq, decide_eq_false_iff_not, beq_iff_eq, bne_iff_ne, beq_eq_false_iff_ne, bne_eq_false_iff_eq, Bool.true_and, ne_eq, Decidable.not_not, Int.not_lt, Int.not_le, Nat.not_lt, Nat.not_le, strB_nil, strB_nil', strB_nnil, strB_nnil'] at hg; first | omega | assumption | (simp only [List.length_append, List.length_cons, List.length_nil, List.length_replicate, put_len] at * <;> omega)) rfl <|
      q_int (.f rfl rfl) (.u rfl id) (.c rfl) rfl rfl <|
      q_or .n (.t rfl) (.u rfl id) rfl <|
      Lex.nil) ?_
  refine run_cond (.t rfl) rfl (fun h1 => ?_) (fun h1 => ?_)
  · try simp only [Bool.and_eq_true, Bool.or_eq_true, Bool.not_eq_true', Bool.and_eq_false_iff, Bool.or_eq_false_iff, Bool.not_eq_false', decide_eq_true_eq, decide_eq_false_iff_not, beq_iff_eq, bne_iff_ne, beq_eq_false_iff_ne, bne_eq_false_iff_eq, Bool.true_and, ne_eq, Decidable.not_not, Int.not_lt, Int.not_le, Nat.not_lt, Nat.not_le, strB_nil, strB_nil', strB_nnil, strB_nnil'] at h1
    refine run_seq ?_
    refine run_region (q_assign .n (.c rfl) rfl <|
        Lex.nil) ?_
    exact run_ret [] (.cons (.t rfl rfl) .nil) rfl trivial rfl
  · try simp only [Bool.and_eq_true, Bool.or_eq_true, Bool.not_eq_true', Bool.and_eq_false_iff, Bool.or_eq_false_iff, Bool.not_eq_false', decide_eq_true_eq, decide_eq_false_iff_not, beq_iff_eq, bne_iff_ne, beq_eq_false_iff_ne, bne_eq_false_iff_eq, Bool.true_and, ne_eq, Decidable.not_not, Int.not_lt, Int.not_le, Nat.not_lt, Nat.not_le, strB_nil, strB_nil', strB_nnil, strB_nnil'] at h1
    refine run_skip ?_
    refine run_seq ?_
    refine run_region (q_move .n (.t rfl) rfl <|
        q_call0 (full := false) .n .f en_91 (.cons (.t rfl) .nil) (.cons (.b (.a (.same rfl))) .nil) (fun hg => c_impl_onlyNameBytes s_ (by first | omega | assumption | (simp only [List.length_append, List.length_cons, List.length_nil, List.length_replicate, put_len] at * <;> omega))) rfl (fun h => Bool.noConfusion h) rfl <|
        q_assign .n (.t rfl) rfl <|
        Lex.nil) ?_
    exact run_ret [] (.cons (.t rfl rfl) .nil) rfl trivial rfl

/-! ### impl_kindOk -/
theorem c_impl_kindOk (n_ : Int) : Con Try.prog 70 [.int .i64 n_] [] (.bool (m_impl_kindOk n_)) ([]) := by
  refine con_intro (out := fun r : Bool => ((.bool r : V), ([] : List (Nat × Option O)))) (r := (m_impl_kindOk n_)) Try.func70 rfl Try.ntmps70 rfl ?_
  refine run_seq ?_
  refine run_region (q_assign .n (.c rfl) rfl <|
      Lex.nil) ?_
  refine run_seq ?_
  refine run_region (q_move .n (.t rfl) rfl <|
      q_call0 (full := false) .n .f en_49 (.cons (.t rfl) (.cons (.c rfl) (.cons (.c rfl) .nil))) (.cons (.b (.a (.same rfl))) (.cons (.b (.a (.same rfl))) (.cons (.b (.a (.same rfl))) .nil))) (fun hg => c_impl_within n_ 1 4) rfl (fun h => Bool.noConfusion h) rfl <|
      q_assign .n (.t rfl) rfl <|
      Lex.nil) ?_
  exact run_ret [] (.cons (.t rfl rfl) .nil) rfl trivial rfl

/-! ### impl_Permit_valid -/
theorem c_impl_Permit_valid (x_ : gPermit) : Con Try.prog 35 [.st [.str x_.Id, .int .i64 x_.Kind, .int .i64 x_.Airway, .int .i64 x_.From, .int .i64 x_.Until]] [] (.bool (m_impl_Permit_valid x_)) ([]) := by
  refine con_intro (out := fun r : Bool => ((.bool r : V), ([] : List (Nat × Option O)))) (r := (m_impl_Permit_valid x_)) Try.func35 rfl Try.ntmps35 rfl ?_
  refine run_seq ?_
  refine run_region (q_box (l := 200) .n rfl (.t rfl) rfl rfl rfl rfl <|
      q_assign .n (.c rfl) rfl <|
      Lex.nil) ?_
  refine run_seq ?_
  refine run_region (q_fld_ow .n (.t rfl) fo_39_0 rfl <|
      q_ld1_ow .n (.t rfl) rfl (.inr rfl) (fun _ => rfl) rfl ic_9 rfl <|
      q_call0 (full := false) .n .f en_69 (.cons (.t rfl) .nil) (.cons (.b (.a (.same rfl))) .nil) (fun hg => c_impl_IsName x_.Id) rfl (fun h => Bool.noConfusion h) rfl <|
      q_move .n (.t rfl) rfl <|
      q_fld_ow (.t rfl rfl) (.t rfl) fo_39_1 rfl <|
      q_ld1_ow (.t rfl rfl) (.u rfl id) rfl (.inr rfl) (fun _ => rfl) rfl ic_2 rfl <|
      q_call0 (full := false) (.t rfl rfl) .f en_70 (.cons (.u rfl id) .nil) (.cons (.b (.a (.same rfl))) .nil) (fun hg => c_impl_kindOk x_.Kind) rfl (fun h => Bool.noConfusion h) rfl <|
      q_and .n (.t rfl) (.u rfl id) rfl <|
      q_move .n (.t rfl) rfl <|
      q_fld_ow (.t rfl rfl) (.t rfl) fo_39_2 rfl <|
      q_ld1_ow (.t rfl rfl) (.u rfl id) rfl (.inr rfl) (fun _ => rfl) rfl ic_2 rfl <|
      q_call0 (full := false) (.t rfl rfl) .f en_49 (.cons (.u rfl id) (.cons (.c rfl) (.cons (.c rfl) .nil))) (.cons (.b (.a (.same rfl))) (.cons (.b (.a (.same rfl))) (.cons (.b (.a (.same rfl))) .nil))) (fun hg => c_impl_within x_.Airway 0 23) rfl (fun h => Bool.noConfusion h) rfl <|
      q_and .n (.t rfl) (.u rfl id) rfl <|
      q_move .n (.t rfl) rfl <|
      q_fld_ow (.t rfl rfl) (.t rfl) fo_39_4 rfl <|
      q_ld1_ow (.t rfl rfl) (.u rfl id) rfl (.inr rfl) (fun _ => rfl) rfl ic_2 rfl <|
      q_call0 (full := false) (.t rfl rfl) .f en_49 (.cons (.u rfl id) (.cons (.c rfl) (.cons (.c rfl) .nil))) (.cons (.b (.a (.same rfl))) (.cons (.b (.a (.same rfl))) (.cons (.b (.a (.same rfl))) .nil))) (fun hg => c_impl_within x_.Until 0 100000) rfl (fun h => Bool.noConfusion h) rfl <|
      q_and .n (.t rfl) (.u rfl id) rfl <|
      q_move .n (.t rfl) rfl <|
      q_fld_ow (.t rfl rfl) (.t rfl) fo_39_3 rfl <|
      q_ld1_ow (.t rfl rfl) (.u rfl id) rfl (.inr rfl) (fun _ => rfl) rfl ic_2 rfl <|
      q_fld_ow (.t rfl rfl) (.t rfl) fo_39_4 rfl <|
      q_ld1_ow (.t rfl rfl) (.u rfl id) rfl (.inr rfl) (fun _ => rfl) rfl ic_2 rfl <|
      q_int (.t rfl rfl) (.u rfl id) (.c rfl) rfl rfl <|
      q_call0 (full := false) (.t rfl rfl) .f en_49 (.cons (.u rfl id) (.cons (.c rfl) (.cons (.u rfl id) .nil))) (.cons (.b (.a (.same rfl))) (.cons (.b (.a (.same rfl))) (.cons (.b (.a (.same rfl))) .nil))) (fun hg => c_impl_within x_.From 0 (IntKind.wrap .i64 (x_.Until - 1))) rfl (fun h => Bool.noConfusion h) rfl <|
      q_and .n (.t rfl) (.u rfl id) rfl <|
      q_assign .n (.t rfl) rfl <|
      Lex.nil) ?_
  exact run_ret [] (.cons (.t rfl rfl) .nil) rfl trivial rfl

/-! ### impl_indexValid_impl_Airway -/
theorem c_impl_indexValid_impl_Airway (list : List gAirway) (k_ : Int) : Con Try.prog 36 [.sl 7 (list.map gAirway.v), .int .i64 k_] [] (.bool (m_impl_indexValid_impl_Airway list k_)) ([]) := by
  refine con_intro (out := fun r : Bool => ((.bool r : V), ([] : List (Nat × Option O)))) (r := (m_impl_indexValid_impl_Airway list k_)) Try.func36 rfl Try.ntmps36 rfl ?_
  refine run_fact (t := 0) rfl fun hl => ?_
  have l1 := hl; clear hl; simp only [List.length_map] at l1
  refine run_seq ?_
  refine run_region (q_assign .n (.c rfl) rfl <|
      Lex.nil) ?_
  refine run_seq ?_
  refine run_region (q_move .n (.t rfl) rfl <|
      q_move .n (.t rfl) rfl <|
      q_len .n (.t rfl) rfl len_map ss_33 rfl <|
      q_sub .n (.t rfl) (.c rfl) (fun _ => by first | omega | assumption | (simp only [List.length_append, List.length_cons, List.length_nil, List.length_replicate, put_len] at * <;> omega)) rfl <|
      q_call0 (full := false) .n .f en_49 (.cons (.t rfl) (.cons (.c rfl) (.cons (.t rfl) .nil))) (.cons (.b (.a (.same rfl))) (.cons (.b (.a (.same rfl))) (.cons (.b (.a (.same rfl))) .nil))) (fun hg => c_impl_within k_ 0 ((list.length : Int) - 1)) rfl (fun h => Bool.noConfusion h) rfl <|
      q_assign .n (.t rfl) rfl <|
      Lex.nil) ?_
  exact run_ret [] (.cons (.t rfl rfl) .nil) rfl trivial rfl

/-! ### impl_junctionOk -/
theorem c_impl_junctionOk (n_ : Int) : Con Try.prog 101 [.int .i64 n_] [] (.bool (m_impl_junctionOk n_)) ([]) := by
  refine con_intro (out := fun r : Bool => ((.bool r : V), ([] : List (Nat × Option O)))) (r := (m_impl_junctionOk n_)) Try.func101 rfl Try.ntmps101 rfl ?_
  refine run_seq ?_
  refine run_region (q_assign .n (.c rfl) rfl <|
      Lex.nil) ?_
  refine run_seq ?_
  refine run_region (q_move .n (.t rfl) rfl <|
      q_call0 (full := false) .n .f en_49 (.cons (.t rfl) (.cons (.c rfl) (.cons (.c rfl) .nil))) (.cons (.b (.a (.same rfl))) (.cons (.b (.a (.same rfl))) (.cons (.b (.a (.same rfl))) .nil))) (fun hg => c_impl_within n_ 0 15) rfl (fun h => Bool.noConfusion h) rfl <|
      q_assign .n (.t rfl) rfl <|
      Lex.nil) ?_
  exact run_ret [] (.cons (.t rfl rfl) .nil) rfl trivial rfl

/-! ### impl_ValidAirway -/
theorem c_impl_ValidAirway (a : gAirway) : Con Try.prog 89 [.st [.str a.Id, .int .i64 a.From, .int .i64 a.To, .int .i64 a.Length, .int .i64 a.Section, .int .i64 a.Friction, .int .i64 a.Shock]] [] (.bool (m_impl_ValidAirway a)) ([]) := by
  refine con_intro (out := fun r : Bool => ((.bool r : V), ([] : List (Nat × Option O)))) (r := (m_impl_ValidAirway a)) Try.func89 rfl Try.ntmps89 rfl ?_
  refine run_seq ?_
  refine run_region (q_box (l := 200) .n rfl (.t rfl) rfl rfl rfl rfl <|
      q_assign .n (.c rfl) rfl <|
      Lex.nil) ?_
  refine run_seq ?_
  refine run_region (q_fld_ow .n (.t rfl) fo_74_0 rfl <|
      q_ld1_ow .n (.t rfl) rfl (.inr rfl) (fun _ => rfl) rfl ic_9 rfl <|
      q_call0 (full := false) .n .f en_69 (.cons (.t rfl) .nil) (.cons (.b (.a (.same rfl))) .nil) (fun hg => c_impl_IsName a.Id) rfl (fun h => Bool.noConfusion h) rfl <|
      q_move .n (.t rfl) rfl <|
      q_fld_ow (.t rfl rfl) (.t rfl) fo_74_1 rfl <|
      q_ld1_ow (.t rfl rfl) (.u rfl id) rfl (.inr rfl) (fun _ => rfl) rfl ic_2 rfl <|
      q_call0 (full := false) (.t rfl rfl) .f en_101 (.cons (.u rfl id) .nil) (.cons (.b (.a (.same rfl))) .nil) (fun hg => c_impl_junctionOk a.From) rfl (fun h => Bool.noConfusion h) rfl <|
      q_and .n (.t rfl) (.u rfl id) rfl <|
      q_move .n (.t rfl) rfl <|
      q_fld_ow (.t rfl rfl) (.t rfl) fo_74_2 rfl <|
      q_ld1_ow (.t rfl rfl) (.u rfl id) rfl (.inr rfl) (fun _ => rfl) rfl ic_2 rfl <|
      q_call0 (full := false) (.t rfl rfl) .f en_101 (.cons (.u rfl id) .nil) (.cons (.b (.a (.same rfl))) .nil) (fun hg => c_impl_junctionOk a.To) rfl (fun h => Bool.noConfusion h) rfl <|
      q_and .n (.t rfl) (.u rfl id) rfl <|
      q_move .n (.t rfl) rfl <|
      q_fld_ow (.t rfl rfl) (.t rfl) fo_74_1 rfl <|
      q_ld1_ow (.t rfl rfl) (.u rfl id) rfl (.inr rfl) (fun _ => rfl) rfl ic_2 rfl <|
      q_fld_ow (.t rfl rfl) (.t rfl) fo_74_2 rfl <|
      q_ld1_ow (.t rfl rfl) (.u rfl id) rfl (.inr rfl) (fun _ => rfl) rfl ic_2 rfl <|
      q_int (.t rfl rfl) (.u rfl id) (.u rfl id) rfl rfl <|
      q_and .n (.t rfl) (.u rfl id) rfl <|
      q_move .n (.t rfl) rfl <|
      q_fld_ow (.t rfl rfl) (.t rfl) fo_74_3 rfl <|
      q_ld1_ow (.t rfl rfl) (.u rfl id) rfl (.inr rfl) (fun _ => rfl) rfl ic_2 rfl <|
      q_call0 (full := false) (.t rfl rfl) .f en_49 (.cons (.u rfl id) (.cons (.c rfl) (.cons (.c rfl) .nil))) (.cons (.b (.a (.same rfl))) (.cons (.b (.a (.same rfl))) (.cons (.b (.a (.same rfl))) .nil))) (fun hg => c_impl_within a.Length 1 10000) rfl (fun h => Bool.noConfusion h) rfl <|
      q_and .n (.t rfl) (.u rfl id) rfl <|
      q_move .n (.t rfl) rfl <|
      q_fld_ow (.t rfl rfl) (.t rfl) fo_74_4 rfl <|
      q_ld1_ow (.t rfl rfl) (.u rfl id) rfl (.inr rfl) (fun _ => rfl) rfl ic_2 rfl <|
      q_call0 (full := false) (.t rfl rfl) .f en_49 (.cons (.u rfl id) (.cons (.c rfl) (.cons (.c rfl) .nil))) (.cons (.b (.a (.same rfl))) (.cons (.b (.a (.same rfl))) (.cons (.b (.a (.same rfl))) .nil))) (fun hg => c_impl_within a.Section 50 5000) rfl (fun h => Bool.noConfusion h) rfl <|
      q_and .n (.t rfl) (.u rfl id) rfl <|
      q_move .n (.t rfl) rfl <|
      q_fld_ow (.t rfl rfl) (.t rfl) fo_74_5 rfl <|
      q_ld1_ow (.t rfl rfl) (.u rfl id) rfl (.inr rfl) (fun _ => rfl) rfl ic_2 rfl <|
      q_call0 (full := false) (.t rfl rfl) .f en_49 (.cons (.u rfl id) (.cons (.c rfl) (.cons (.c rfl) .nil))) (.cons (.b (.a (.same rfl))) (.cons (.b (.a (.same rfl))) (.cons (.b (.a (.same rfl))) .nil))) (fun hg => c_impl_within a.Friction 1 1000) rfl (fun h => Bool.noConfusion h) rfl <|
      q_and .n (.t rfl) (.u rfl id) rfl <|
      q_move .n (.t rfl) rfl <|
      q_fld_ow (.t rfl rfl) (.t rfl) fo_74_6 rfl <|
      q_ld1_ow (.t rfl rfl) (.u rfl id) rfl (.inr rfl) (fun _ => rfl) rfl ic_2 rfl <|
      q_call0 (full := false) (.t rfl rfl) .f en_49 (.cons (.u rfl id) (.cons (.c rfl) (.cons (.c rfl) .nil))) (.cons (.b (.a (.same rfl))) (.cons (.b (.a (.same rfl))) (.cons (.b (.a (.same rfl))) .nil))) (fun hg => c_impl_within a.Shock 0 1000) rfl (fun h => Bool.noConfusion h) rfl <|
      q_and .n (.t rfl) (.u rfl id) rfl <|
      q_assign .n (.t rfl) rfl <|
      Lex.nil) ?_
  exact run_ret [] (.cons (.t rfl rfl) .nil) rfl trivial rfl

/-! ### impl_Mine_hasJunction -/
theorem c_impl_Mine_hasJunction (m_ : gMine) (n_ : Int) : Con Try.prog 102 [.st [.int .i64 m_.Junctions, .sl 7 (m_.Airways.map gAirway.v)], .int .i64 n_] [] (.bool (m_impl_Mine_hasJunction m_ n_)) ([]) := by
  refine con_intro (out := fun r : Bool => ((.bool r : V), ([] : List (Nat × Option O)))) (r := (m_impl_Mine_hasJunction m_ n_)) Try.func102 rfl Try.ntmps102 rfl ?_
  refine run_factS (t := 0) 1 rfl rfl fun hl => ?_
  have l1 := hl; clear hl; simp only [List.length_map] at l1
  refine run_seq ?_
  refine run_region (q_box (l := 200) .n rfl (.t rfl) rfl rfl rfl rfl <|
      q_assign .n (.c rfl) rfl <|
      Lex.nil) ?_
  refine run_seq ?_
  refine run_region (q_move .n (.t rfl) rfl <|
      q_fld_ow .n (.t rfl) fo_35_0 rfl <|
      q_ld1_ow .n (.t rfl) rfl (.inr rfl) (fun _ => rfl) rfl ic_2 rfl <|
      q_int .n (.t rfl) (.c rfl) rfl rfl <|
      q_call0 (full := false) .n .f en_49 (.cons (.t rfl) (.cons (.c rfl) (.cons (.t rfl) .nil))) (.cons (.b (.a (.same rfl))) (.cons (.b (.a (.same rfl))) (.cons (.b (.a (.same rfl))) .nil))) (fun hg => c_impl_within n_ 0 (IntKind.wrap .i64 (m_.Junctions - 1))) rfl (fun h => Bool.noConfusion h) rfl <|
      q_assign .n (.t rfl) rfl <|
      Lex.nil) ?_
  exact run_ret [] (.cons (.t rfl rfl) .nil) rfl trivial rfl

/-! ### impl_Mine_hasEnds -/
theorem c_impl_Mine_hasEnds (m_ : gMine) (a : gAirway) : Con Try.prog 90 [.st [.int .i64 m_.Junctions, .sl 7 (m_.Airways.map gAirway.v)], .st [.str a.Id, .int .i64 a.From, .int .i64 a.To, .int .i64 a.Length, .int .i64 a.Section, .int .i64 a.Friction, .int .i64 a.Shock]] [] (.bool (m_impl_Mine_hasEnds m_ a)) ([]) := by
  refine con_intro (out := fun r : Bool => ((.bool r : V), ([] : List (Nat × Option O)))) (r := (m_impl_Mine_hasEnds m_ a)) Try.func90 rfl Try.ntmps90 rfl ?_
  refine run_factS (t := 0) 1 rfl rfl fun hl => ?_
  have l1 := hl; clear hl; simp only [List.length_map] at l1
  refine run_seq ?_
  refine run_region (q_box (l := 200) .n rfl (.t rfl) rfl rfl rfl rfl <|
      q_box (l := 201) .n rfl (.t rfl) rfl rfl rfl rfl <|
      q_assign .n (.c rfl) rfl <|
      Lex.nil) ?_
  refine run_seq ?_
  refine run_region (q_ldN_ow .n (.t rfl) rfl (.inr rfl) ag_35 (fun _ => rfl) rfl rfl <|
      q_fld_ow .n (.t rfl) fo_74_1 rfl <|
      q_ld1_ow .n (.t rfl) rfl (.inr rfl) (fun _ => rfl) rfl ic_2 rfl <|
      q_call0 (full := false) .n .f en_102 (.cons (.t rfl) (.cons (.t rfl) .nil)) (.cons (.sts rfl) (.cons (.b (.a (.same rfl))) .nil)) (fun hg => c_impl_Mine_hasJunction m_ a.From) rfl (fun h => Bool.noConfusion h) rfl <|
      q_move .n (.t rfl) rfl <|
      q_ldN_ow (.t rfl rfl) (.t rfl) rfl (.inr rfl) ag_35 (fun _ => rfl) rfl rfl <|
      q_fld_ow (.t rfl rfl) (.t rfl) fo_74_2 rfl <|
      q_ld1_ow (.t rfl rfl) (.u rfl id) rfl (.inr rfl) (fun _ => rfl) rfl ic_2 rfl <|
      q_call0 (full := false) (.t rfl rfl) .f en_102 (.cons (.u rfl id) (.cons (.u rfl id) .nil)) (.cons (.sts rfl) (.cons (.b (.a (.same rfl))) .nil)) (fun hg => c_impl_Mine_hasJunction m_ a.To) rfl (fun h => Bool.noConfusion h) rfl <|
      q_and .n (.t rfl) (.u rfl id) rfl <|
      q_assign .n (.t rfl) rfl <|
      Lex.nil) ?_
  exact run_ret [] (.cons (.t rfl rfl) .nil) rfl trivial rfl

/-! ### impl_ValidMine -/
theorem c_impl_ValidMine (m_ : gMine) : Con Try.prog 68 [.st [.int .i64 m_.Junctions, .sl 7 (m_.Airways.map gAirway.v)]] [] (.bool (m_impl_ValidMine m_)) ([]) := by
  refine con_intro (out := fun r : Bool => ((.bool r : V), ([] : List (Nat × Option O)))) (r := (m_impl_ValidMine m_)) Try.func68 rfl Try.ntmps68 rfl ?_
  refine run_factS (t := 0) 1 rfl rfl fun hl => ?_
  have l1 := hl; clear hl; simp only [List.length_map] at l1
  refine run_seq ?_
  refine run_region (q_box (l := 200) .n rfl (.t rfl) rfl rfl rfl rfl <|
      q_assign .n (.c rfl) rfl <|
      Lex.nil) ?_
  refine run_seq ?_
  refine run_seq ?_
  refine run_region (q_fld_ow .n (.t rfl) fo_35_0 rfl <|
      q_ld1_ow .n (.t rfl) rfl (.inr rfl) (fun _ => rfl) rfl ic_2 rfl <|
      q_call0 (full := false) .n .f en_49 (.cons (.t rfl) (.cons (.c rfl) (.cons (.c rfl) .nil))) (.cons (.b (.a (.same rfl))) (.cons (.b (.a (.same rfl))) (.cons (.b (.a (.same rfl))) .nil))) (fun hg => c_impl_within m_.Junctions 1 16) rfl (fun h => Bool.noConfusion h) rfl <|
      q_not .n (.t rfl) rfl <|
      q_move .n (.t rfl) rfl <|
      q_fld_ow (.f rfl rfl) (.t rfl) fo_35_1 rfl <|
      q_ld1_ow (.f rfl rfl) (.u rfl id) rfl (.inr rfl) (fun _ => rfl) rfl ic_33 rfl <|
      q_len (.f rfl rfl) (.u rfl id) rfl len_map ss_33 rfl <|
      q_int (.f rfl rfl) (.u rfl id) (.c rfl) rfl rfl <|
      q_or .n (.t rfl) (.u rfl id) rfl <|
      Lex.nil) ?_
  refine run_cond (.t rfl) rfl (fun h2 => ?_) (fun h2 => ?_)
  · try simp only [Bool.and_eq_true, Bool.or_eq_true, Bool.not_eq_true', Bool.and_eq_false_iff, Bool.or_eq_false_iff, Bool.not_eq_false', decide_eq_true_eq, decide_eq_false_iff_not, beq_iff_eq, bne_iff_ne, beq_eq_false_iff_ne, bne_eq_false_iff_eq, Bool.true_and, ne_eq, Decidable.not_not, Int.not_lt, Int.not_le, Nat.not_lt, Nat.not_le, strB_nil, strB_nil', strB_nnil, strB_nnil'] at h2
    try have hf0h2 := within_imp h2
    try have hf1h2 := within_imp h2.1
    try have hf2h2 := within_imp h2.2
    try have hf3h2 := within_imp h2.1.1
    try have hf4h2 := within_imp h2.1.2
    try have hf5h2 := within_imp h2.2.1
    try have hf6h2 := within_imp h2.2.2
    refine run_seq ?_
    refine run_region (q_assign .n (.c rfl) rfl <|
        Lex.nil) ?_
    exact run_ret [] (.cons (.t rfl rfl) .nil) rfl trivial rfl
  · try simp only [Bool.and_eq_true, Bool.or_eq_true, Bool.not_eq_true', Bool.and_eq_false_iff, Bool.or_eq_false_iff, Bool.not_eq_false', decide_eq_true_eq, decide_eq_false_iff_not, beq_iff_eq, bne_iff_ne, beq_eq_false_iff_ne, bne_eq_false_iff_eq, Bool.true_and, ne_eq, Decidable.not_not, Int.not_lt, Int.not_le, Nat.not_lt, Nat.not_le, strB_nil, strB_nil', strB_nnil, strB_nnil'] at h2
    try have hf0h2 := within_imp h2
    try have hf1h2 := within_imp h2.1
    try have hf2h2 := within_imp h2.2
    try have hf3h2 := within_imp h2.1.1
    try have hf4h2 := within_imp h2.1.2
    try have hf5h2 := within_imp h2.2.1
    try have hf6h2 := within_imp h2.2.2
    refine run_skip ?_
    refine run_seq ?_
    refine run_seq ?_
    refine run_region (q_fld_ow .n (.t rfl) fo_35_1 rfl <|
        q_ld1_ow .n (.t rfl) rfl (.inr rfl) (fun _ => rfl) rfl ic_33 rfl <|
        q_len .n (.t rfl) rfl len_map ss_33 rfl <|
        q_move .n (.c rfl) rfl <|
        Lex.nil) ?_
    refine run_block ?_
    refine run_LOOP (m_impl_ValidMine_b1 m_) _ _ _ rfl (fun (x1 : Int) => 0 ≤ x1 ∧ x1 ≤ (m_.Airways.length : Int)) (fun x1 => 0 ≤ x1 ∧ x1 ≤ (m_.Airways.length : Int) ∧ (m_.Airways.length : Int) ≤ x1) (fun x1 => ((m_.Airways.length : Int) - x1 : Int).toNat) (fun x1 => ⟨[(1, some (true, .op 200 0 0 0)), (16, some (true, .sl 7 (m_.Airways.map gAirway.v))), (17, some (true, .int .i64 (m_.Airways.length : Int))), (18, some (true, .int .i64 x1))], [(200, some (.box 35 [.int .i64 m_.Junctions, .sl 7 (m_.Airways.map gAirway.v)]))]⟩) (fun x1 => ⟨[], []⟩) ⟨by first | omega | assumption | (simp only [List.length_append, List.length_cons, List.length_nil, List.length_replicate, put_len] at * <;> omega), by first | omega | assumption | (simp only [List.length_append, List.length_cons, List.length_nil, List.length_replicate, put_len] at * <;> omega)⟩ (by first | omega | assumption | (simp only [List.length_append, List.length_cons, List.length_nil, List.length_replicate, put_len] at * <;> omega)) (sub_of [] ⟨rfl, rfl, rfl, rfl, trivial⟩ ⟨rfl, trivial⟩ rfl) ?_ ?_
    · intro x1 i7
      obtain ⟨e8, e9, e10⟩ := i7
      try dsimp only at *
      refine run_seq ?_
      refine run_region (q_assign .n (.c rfl) rfl <|
          Lex.nil) ?_
      exact run_ret [] (.cons (.t rfl rfl) .nil) rfl trivial rfl
    · intro rec1 k1 hk3 x1 i4
      obtain ⟨e11, e12⟩ := i4
      try dsimp only at *
      refine run_seq ?_
      refine run_region (q_int .n (.t rfl) (.t rfl) rfl rfl <|
          Lex.nil) ?_
      refine run_seq ?_
      refine run_cond (.t rfl) rfl (fun h5 => ?_) (fun h5 => ?_)
      · try simp only [Bool.and_eq_true, Bool.or_eq_true, Bool.not_eq_true', Bool.and_eq_false_iff, Bool.or_eq_false_iff, Bool.not_eq_false', decide_eq_true_eq, decide_eq_false_iff_not, beq_iff_eq, bne_iff_ne, beq_eq_false_iff_ne, bne_eq_false_iff_eq, Bool.true_and, ne_eq, Decidable.not_not, Int.not_lt, Int.not_le, Nat.not_lt, Nat.not_le, strB_nil, strB_nil', strB_nnil, strB_nnil'] at h5
        refine run_skip ?_
        refine run_seq ?_
        refine run_block ?_
        refine run_seq ?_
        refine run_region (q_move .n (.t rfl) rfl <|
            q_idx_rm .n (.t rfl) (.t rfl) sl_33 (fun _ => by first | omega | assumption | (simp only [List.length_append, List.length_cons, List.length_nil, List.length_replicate, put_len] at * <;> omega)) rfl <|
            q_ldN_ro .n (.t rfl) ag_74 rfl rfl rfl <|
            q_alloc (l := 201) .n rfl zv_74 rfl rfl <|
            q_assign .n (.t rfl) rfl <|
            q_st_boxm [.str (at' m_.Airways x1).Id, .int .i64 (at' m_.Airways x1).From, .int .i64 (at' m_.Airways x1).To, .int .i64 (at' m_.Airways x1).Length, .int .i64 (at' m_.Airways x1).Section, .int .i64 (at' m_.Airways x1).Friction, .int .i64 (at' m_.Airways x1).Shock] .n rfl (.t rfl) (.t rfl) rfl ts_74 rfl rfl <|
            Lex.nil) ?_
        refine run_seq ?_
        refine run_draw fmo (q_ldN_ow .n (.t rfl) rfl (.inr rfl) ag_74 (fun _ => rfl) rfl rfl <|
            q_call0 (full := false) .n .f en_89 (.cons (.t rfl) .nil) (.cons (.sts rfl) .nil) (fun hg => c_impl_ValidAirway (at' m_.Airways x1)) rfl (fun h => Bool.noConfusion h) rfl <|
            q_not .n (.t rfl) rfl <|
            q_move .n (.t rfl) rfl <|
            q_ldN_ow (.f rfl rfl) (.t rfl) rfl (.inr rfl) ag_35 (fun _ => rfl) rfl rfl <|
            q_ldN_ow (.f rfl rfl) (.t rfl) rfl (.inr rfl) ag_74 (fun _ => rfl) rfl rfl <|
            q_call0 (full := false) (.f rfl rfl) .f en_90 (.cons (.u rfl id) (.cons (.u rfl id) .nil)) (.cons (.sts rfl) (.cons (.sts rfl) .nil)) (fun hg => c_impl_Mine_hasEnds m_ (at' m_.Airways x1)) rfl (fun h => Bool.noConfusion h) rfl <|
            q_not (.f rfl rfl) (.u rfl id) rfl <|
            q_or .n (.t rfl) (.u rfl id) rfl <|
            q_move .n (.t rfl) rfl <|
            q_move (.f rfl rfl) (.t rfl) rfl <|
            q_int (.f rfl rfl) (.u rfl id) (.c rfl) rfl rfl <|
            q_move (.f rfl rfl) (.u rfl id) rfl <|
            q_fld_ow (.t rfl rfl) (.t rfl) fo_74_0 rfl <|
            q_ld1_ow (.t rfl rfl) (.u rfl id) rfl (.inr rfl) (fun _ => rfl) rfl ic_9 rfl <|
            q_fld_ow (.t rfl rfl) (.t rfl) fo_35_1 rfl <|
            q_ld1_ow (.t rfl rfl) (.u rfl id) rfl (.inr rfl) (fun _ => rfl) rfl ic_33 rfl <|
            q_move (.t rfl rfl) (.t rfl) rfl <|
            q_sub (.t rfl rfl) (.u rfl id) (.c rfl) (fun hg => by simp only [Bool.and_eq_true, Bool.or_eq_true, Bool.not_eq_true', Bool.and_eq_false_iff, Bool.or_eq_false_iff, Bool.not_eq_false', decide_eq_true_eq, decide_eq_false_iff_not, beq_iff_eq, bne_iff_ne, beq_eq_false_iff_ne, bne_eq_false_iff_eq, Bool.true_and, ne_eq, Decidable.not_not, Int.not_lt, Int.not_le, Nat.not_lt, Nat.not_le, strB_nil, strB_nil', strB_nnil, strB_nnil'] at hg; first | omega | assumption | (simp only [List.length_append, List.length_cons, List.length_nil, List.length_replicate, put_len] at * <;> omega)) rfl <|
            q_idx_rm (.t rfl rfl) (.u rfl id) (.u rfl id) sl_33 (fun hg => by simp only [Bool.and_eq_true, Bool.or_eq_true, Bool.not_eq_true', Bool.and_eq_false_iff, Bool.or_eq_false_iff, Bool.not_eq_false', decide_eq_true_eq, decide_eq_false_iff_not, beq_iff_eq, bne_iff_ne, beq_eq_false_iff_ne, bne_eq_false_iff_eq, Bool.true_and, ne_eq, Decidable.not_not, Int.not_lt, Int.not_le, Nat.not_lt, Nat.not_le, strB_nil, strB_nil', strB_nnil, strB_nnil'] at hg; first | omega | assumption | (simp only [List.length_append, List.length_cons, List.length_nil, List.length_replicate, put_len] at * <;> omega)) rfl <|
            q_fld_ro (.t rfl rfl) (.u rfl id) fo_74_0 rfl <|
            q_ld1_ro (.t rfl rfl) (.u rfl id) rfl ic_9 rfl <|
            q_strcmp (.t rfl rfl) (.u rfl id) (.u rfl id) rfl rfl <|
            q_and (.f rfl rfl) (.u rfl id) (.u rfl id) rfl <|
            q_or .n (.t rfl) (.u rfl id) rfl <|
            Lex.nil) (by kernel_rfl) ?_
        refine run_cond (.t rfl) rfl (fun h6 => ?_) (fun h6 => ?_)
        · try simp only [Bool.and_eq_true, Bool.or_eq_true, Bool.not_eq_true', Bool.and_eq_false_iff, Bool.or_eq_false_iff, Bool.not_eq_false', decide_eq_true_eq, decide_eq_false_iff_not, beq_iff_eq, bne_iff_ne, beq_eq_false_iff_ne, bne_eq_false_iff_eq, Bool.true_and, ne_eq, Decidable.not_not, Int.not_lt, Int.not_le, Nat.not_lt, Nat.not_le, strB_nil, strB_nil', strB_nnil, strB_nnil'] at h6
          refine run_seq ?_
          refine run_region (q_assign .n (.c rfl) rfl <|
              Lex.nil) ?_
          exact run_ret [] (.cons (.t rfl rfl) .nil) rfl trivial rfl
        · try simp only [Bool.and_eq_true, Bool.or_eq_true, Bool.not_eq_true', Bool.and_eq_false_iff, Bool.or_eq_false_iff, Bool.not_eq_false', decide_eq_true_eq, decide_eq_false_iff_not, beq_iff_eq, bne_iff_ne, beq_eq_false_iff_ne, bne_eq_false_iff_eq, Bool.true_and, ne_eq, Decidable.not_not, Int.not_lt, Int.not_le, Nat.not_lt, Nat.not_le, strB_nil, strB_nil', strB_nnil, strB_nnil'] at h6
          refine run_skip ?_
          refine run_endB ?_
          refine run_region (q_add .n (.t rfl) (.c rfl) (fun _ => by first | omega | assumption | (simp only [List.length_append, List.length_cons, List.length_nil, List.length_replicate, put_len] at * <;> omega)) rfl <|
              q_move .n (.t rfl) rfl <|
              Lex.nil) ?_
          exact run_again (x1 + 1) ⟨by first | omega | assumption | (simp only [List.length_append, List.length_cons, List.length_nil, List.length_replicate, put_len] at * <;> omega), by first | omega | assumption | (simp only [List.length_append, List.length_cons, List.length_nil, List.length_replicate, put_len] at * <;> omega)⟩ (by first | omega | assumption | (simp only [List.length_append, List.length_cons, List.length_nil, List.length_replicate, put_len] at * <;> omega)) (sub_of [] ⟨rfl, rfl, rfl, rfl, trivial⟩ ⟨rfl, trivial⟩ rfl)
      · try simp only [Bool.and_eq_true, Bool.or_eq_true, Bool.not_eq_true', Bool.and_eq_false_iff, Bool.or_eq_false_iff, Bool.not_eq_false', decide_eq_true_eq, decide_eq_false_iff_not, beq_iff_eq, bne_iff_ne, beq_eq_false_iff_ne, bne_eq_false_iff_eq, Bool.true_and, ne_eq, Decidable.not_not, Int.not_lt, Int.not_le, Nat.not_lt, Nat.not_le, strB_nil, strB_nil', strB_nnil, strB_nnil'] at h5
        refine run_exit rfl ?_
        exact run_cont hk3 x1 ⟨by first | omega | assumption | (simp only [List.length_append, List.length_cons, List.length_nil, List.length_replicate, put_len] at * <;> omega), by first | omega | assumption | (simp only [List.length_append, List.length_cons, List.length_nil, List.length_replicate, put_len] at * <;> omega), by first | omega | assumption | (simp only [List.length_append, List.length_cons, List.length_nil, List.length_replicate, put_len] at * <;> omega)⟩ (sub_of [] trivial trivial rfl)


end Go.Proofs.Ytpkkmkbafdadoaa
