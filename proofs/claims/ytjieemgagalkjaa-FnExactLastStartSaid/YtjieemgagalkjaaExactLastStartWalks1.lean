/-
  THE WALKS: each Go function computes its model. Conditions: as each theorem states them (hp1, hp2 ..).
-/
import Derived.Test.YtjieemgagalkjaaExactLastStartPlain15
import Derived.Test.YtjieemgagalkjaaProg
set_option linter.unusedVariables false
set_option linter.unusedSimpArgs false
set_option linter.unusedSectionVars false
set_option linter.unnecessarySimpa false
namespace Go.Proofs.Ytjieemgagalkjaa
open Go Go.RowKit Go.Proofs Go.Proofs.Ytjieemgagalkjaa.E
theorem fo_123_0 : fldOff Try.prog 123 0 = some 0 := by kernel_rfl
theorem ic_9 : isCell Try.prog 9 = true := by kernel_rfl
theorem st_9 : isStr Try.prog 9 = true := by kernel_rfl
theorem ss_22 : (slEl Try.prog 22).isSome = true := by kernel_rfl
theorem sl_22 : slEl Try.prog 22 = some (123, 7) := by kernel_rfl
theorem ag_123 : aggSz Try.prog 123 = some 7 := by kernel_rfl
theorem en_71 : entB Try.prog 71 = true := by kernel_rfl
theorem fo_24_1 : fldOff Try.prog 24 1 = some 1 := by kernel_rfl
theorem ic_22 : isCell Try.prog 22 = true := by kernel_rfl
theorem en_33 : entB Try.prog 33 = true := by kernel_rfl
theorem fo_27_0 : fldOff Try.prog 27 0 = some 0 := by kernel_rfl
theorem en_137 : entB Try.prog 137 = true := by kernel_rfl
theorem en_138 : entB Try.prog 138 = true := by kernel_rfl
theorem fo_128_0 : fldOff Try.prog 128 0 = some 0 := by kernel_rfl
theorem en_113 : entB Try.prog 113 = true := by kernel_rfl
theorem fo_128_1 : fldOff Try.prog 128 1 = some 1 := by kernel_rfl
theorem ic_2 : isCell Try.prog 2 = true := by kernel_rfl
theorem en_65 : entB Try.prog 65 = true := by kernel_rfl
theorem fo_128_2 : fldOff Try.prog 128 2 = some 2 := by kernel_rfl
theorem fmo : Try.prog.follows .mixedOrders = true := by kernel_rfl
theorem fo_128_3 : fldOff Try.prog 128 3 = some 3 := by kernel_rfl
theorem fo_128_4 : fldOff Try.prog 128 4 = some 4 := by kernel_rfl
theorem fo_128_5 : fldOff Try.prog 128 5 = some 5 := by kernel_rfl
theorem fo_128_6 : fldOff Try.prog 128 6 = some 6 := by kernel_rfl
theorem fo_34_0 : fldOff Try.prog 34 0 = some 0 := by kernel_rfl
theorem fo_34_1 : fldOff Try.prog 34 1 = some 1 := by kernel_rfl
theorem ic_32 : isCell Try.prog 32 = true := by kernel_rfl
theorem ss_32 : (slEl Try.prog 32).isSome = true := by kernel_rfl
theorem sl_32 : slEl Try.prog 32 = some (128, 7) := by kernel_rfl
theorem en_111 : entB Try.prog 111 = true := by kernel_rfl
theorem en_112 : entB Try.prog 112 = true := by kernel_rfl
theorem fo_37_0 : fldOff Try.prog 37 0 = some 0 := by kernel_rfl
theorem fo_37_1 : fldOff Try.prog 37 1 = some 1 := by kernel_rfl
theorem fo_37_2 : fldOff Try.prog 37 2 = some 2 := by kernel_rfl
theorem ss_25 : (slEl Try.prog 25).isSome = true := by kernel_rfl
theorem sl_25 : slEl Try.prog 25 = some (2, 1) := by kernel_rfl
theorem en_72 : entB Try.prog 72 = true := by kernel_rfl
theorem en_73 : entB Try.prog 73 = true := by kernel_rfl
theorem en_74 : entB Try.prog 74 = true := by kernel_rfl
theorem en_75 : entB Try.prog 75 = true := by kernel_rfl
theorem en_76 : entB Try.prog 76 = true := by kernel_rfl
theorem ts_2 : tySz Try.prog 2 = some 1 := by kernel_rfl
theorem si_25 : slInfo Try.prog 25 = some (2, 1, 8) := by kernel_rfl
theorem zv_2 : zeroV Try.prog 2 = some (.int .i64 0) := by kernel_rfl
theorem en_77 : entB Try.prog 77 = true := by kernel_rfl
theorem en_78 : entB Try.prog 78 = true := by kernel_rfl
theorem en_34 : entB Try.prog 34 = true := by kernel_rfl
theorem en_35 : entB Try.prog 35 = true := by kernel_rfl
theorem en_37 : entB Try.prog 37 = true := by kernel_rfl
theorem en_36 : entB Try.prog 36 = true := by kernel_rfl
theorem zv_128 : zeroV Try.prog 128 = some (.st [.str ([] : List UInt8), .int .i64 0, .int .i64 0, .int .i64 0, .int .i64 0, .int .i64 0, .int .i64 0]) := by kernel_rfl
theorem ts_9 : tySz Try.prog 9 = some 1 := by kernel_rfl
theorem fo_123_1 : fldOff Try.prog 123 1 = some 1 := by kernel_rfl
theorem fo_123_2 : fldOff Try.prog 123 2 = some 2 := by kernel_rfl
theorem fo_123_3 : fldOff Try.prog 123 3 = some 3 := by kernel_rfl
theorem fo_123_4 : fldOff Try.prog 123 4 = some 4 := by kernel_rfl
theorem fo_123_5 : fldOff Try.prog 123 5 = some 5 := by kernel_rfl
theorem fo_123_6 : fldOff Try.prog 123 6 = some 6 := by kernel_rfl
theorem ag_128 : aggSz Try.prog 128 = some 7 := by kernel_rfl
theorem ts_128 : tySz Try.prog 128 = some 7 := by kernel_rfl
theorem si_32 : slInfo Try.prog 32 = some (128, 7, 64) := by kernel_rfl
theorem en_79 : entB Try.prog 79 = true := by kernel_rfl
theorem zv_34 : zeroV Try.prog 34 = some (.st [.int .i64 0, .nls]) := by kernel_rfl
theorem fo_24_0 : fldOff Try.prog 24 0 = some 0 := by kernel_rfl
theorem en_38 : entB Try.prog 38 = true := by kernel_rfl
theorem ts_32 : tySz Try.prog 32 = some 1 := by kernel_rfl
theorem ag_34 : aggSz Try.prog 34 = some 2 := by kernel_rfl
theorem ts_34 : tySz Try.prog 34 = some 2 := by kernel_rfl
theorem zv_37 : zeroV Try.prog 37 = some (.st [.str ([] : List UInt8), .int .i64 0, .int .i64 0]) := by kernel_rfl
theorem fo_27_1 : fldOff Try.prog 27 1 = some 1 := by kernel_rfl
theorem fo_27_2 : fldOff Try.prog 27 2 = some 2 := by kernel_rfl
theorem ag_37 : aggSz Try.prog 37 = some 3 := by kernel_rfl
theorem ts_37 : tySz Try.prog 37 = some 3 := by kernel_rfl
theorem en_144 : entB Try.prog 144 = true := by kernel_rfl
theorem en_81 : entB Try.prog 81 = true := by kernel_rfl
theorem en_132 : entB Try.prog 132 = true := by kernel_rfl
theorem en_139 : entB Try.prog 139 = true := by kernel_rfl
theorem en_115 : entB Try.prog 115 = true := by kernel_rfl
theorem en_130 : entB Try.prog 130 = true := by kernel_rfl
theorem en_131 : entB Try.prog 131 = true := by kernel_rfl
theorem en_105 : entB Try.prog 105 = true := by kernel_rfl
theorem ss_75 : (slEl Try.prog 75).isSome = true := by kernel_rfl
theorem sl_75 : slEl Try.prog 75 = some (37, 3) := by kernel_rfl
theorem en_114 : entB Try.prog 114 = true := by kernel_rfl
theorem en_134 : entB Try.prog 134 = true := by kernel_rfl
theorem en_116 : entB Try.prog 116 = true := by kernel_rfl
theorem en_108 : entB Try.prog 108 = true := by kernel_rfl
theorem en_117 : entB Try.prog 117 = true := by kernel_rfl
theorem en_82 : entB Try.prog 82 = true := by kernel_rfl
theorem zv_72 : zeroV Try.prog 72 = some (.st [.int .i64 0, .nls, .nls, .int .i64 0]) := by kernel_rfl
theorem en_80 : entB Try.prog 80 = true := by kernel_rfl
theorem pl_72 : places Try.prog 72 = some [(0, 2), (2, 1), (3, 1)] := by kernel_rfl
theorem ts_72 : tySz Try.prog 72 = some 4 := by kernel_rfl
theorem en_83 : entB Try.prog 83 = true := by kernel_rfl
theorem ag_72 : aggSz Try.prog 72 = some 4 := by kernel_rfl
theorem cv_3_163 : cvInt Try.prog 3 163 = some .u64 := by kernel_rfl
theorem cv_163_3 : cvInt Try.prog 163 3 = some .i64 := by kernel_rfl
theorem ic_79 : isCell Try.prog 79 = true := by kernel_rfl
theorem en_85 : entB Try.prog 85 = true := by kernel_rfl
theorem en_84 : entB Try.prog 84 = true := by kernel_rfl
theorem cv_175_178 : cvInt Try.prog 175 178 = some .u64 := by kernel_rfl
theorem cv_178_175 : cvInt Try.prog 178 175 = some .u32 := by kernel_rfl
theorem cv_163_175 : cvInt Try.prog 163 175 = some .u32 := by kernel_rfl
theorem en_140 : entB Try.prog 140 = true := by kernel_rfl
theorem cv_175_163 : cvInt Try.prog 175 163 = some .u64 := by kernel_rfl
theorem en_141 : entB Try.prog 141 = true := by kernel_rfl
theorem en_118 : entB Try.prog 118 = true := by kernel_rfl
theorem fo_72_1 : fldOff Try.prog 72 1 = some 2 := by kernel_rfl
theorem ic_25 : isCell Try.prog 25 = true := by kernel_rfl
theorem en_119 : entB Try.prog 119 = true := by kernel_rfl
theorem fo_72_0 : fldOff Try.prog 72 0 = some 0 := by kernel_rfl
theorem en_86 : entB Try.prog 86 = true := by kernel_rfl
theorem en_87 : entB Try.prog 87 = true := by kernel_rfl
theorem zv_138 : zeroV Try.prog 138 = some (.st [.int .i64 0, .int .i64 0]) := by kernel_rfl
theorem ae_138 : arrEl Try.prog 138 = some (2, 2, 1) := by kernel_rfl
theorem zv_139 : zeroV Try.prog 139 = some (.st [.int .i64 0, .int .i64 0, .int .i64 0, .int .i64 0]) := by kernel_rfl
theorem ae_139 : arrEl Try.prog 139 = some (2, 138, 2) := by kernel_rfl
theorem ag_138 : aggSz Try.prog 138 = some 2 := by kernel_rfl
theorem ts_138 : tySz Try.prog 138 = some 2 := by kernel_rfl
theorem en_88 : entB Try.prog 88 = true := by kernel_rfl
theorem fo_72_2 : fldOff Try.prog 72 2 = some 3 := by kernel_rfl
theorem en_43 : entB Try.prog 43 = true := by kernel_rfl
theorem en_42 : entB Try.prog 42 = true := by kernel_rfl
theorem si_75 : slInfo Try.prog 75 = some (37, 3, 32) := by kernel_rfl
theorem en_39 : entB Try.prog 39 = true := by kernel_rfl
theorem en_41 : entB Try.prog 41 = true := by kernel_rfl
theorem en_40 : entB Try.prog 40 = true := by kernel_rfl
theorem en_44 : entB Try.prog 44 = true := by kernel_rfl
theorem en_89 : entB Try.prog 89 = true := by kernel_rfl
theorem en_45 : entB Try.prog 45 = true := by kernel_rfl
theorem ag_24 : aggSz Try.prog 24 = some 2 := by kernel_rfl
theorem en_7 : entB Try.prog 7 = true := by kernel_rfl
theorem ag_27 : aggSz Try.prog 27 = some 3 := by kernel_rfl
theorem en_8 : entB Try.prog 8 = true := by kernel_rfl
theorem en_10 : entB Try.prog 10 = true := by kernel_rfl
theorem en_11 : entB Try.prog 11 = true := by kernel_rfl
theorem en_12 : entB Try.prog 12 = true := by kernel_rfl
theorem en_9 : entB Try.prog 9 = true := by kernel_rfl
theorem en_13 : entB Try.prog 13 = true := by kernel_rfl
theorem en_14 : entB Try.prog 14 = true := by kernel_rfl
theorem en_15 : entB Try.prog 15 = true := by kernel_rfl

/-! ### laws_szAirway -/
theorem c_laws_szAirway (a : gAirway) (left : Int) : Con Try.prog 71 [.st [.str a.Id, .int .i64 a.From, .int .i64 a.To, .int .i64 a.Length, .int .i64 a.Section, .int .i64 a.Friction, .int .i64 a.Shock], .int .i64 left] [] (.int .i64 (m_laws_szAirway a left)) ([]) := by
  refine con_intro (out := fun r : Int => ((.int .i64 r : V), ([] : List (Nat × Option O)))) (r := (m_laws_szAirway a left)) Try.func71 rfl Try.ntmps71 rfl ?_
  refine run_seq ?_
  refine run_region (q_box (l := 200) .n rfl (.t rfl) rfl rfl rfl rfl <|
      q_assign .n (.c rfl) rfl <|
      Lex.nil) ?_
  refine run_seq ?_
  refine run_region (q_move .n (.t rfl) rfl <|
      q_fld_ow .n (.t rfl) fo_123_0 rfl <|
      q_ld1_ow .n (.t rfl) rfl (.inr rfl) (fun _ => rfl) rfl ic_9 rfl <|
      q_len .n (.t rfl) rfl rfl st_9 rfl <|
      q_int .n (.t rfl) (.t rfl) rfl rfl <|
      q_assign .n (.t rfl) rfl <|
      Lex.nil) ?_
  refine run_seq ?_
  refine run_seq ?_
  refine run_region (q_move .n (.t rfl) rfl <|
      q_int .n (.t rfl) (.c rfl) rfl rfl <|
      Lex.nil) ?_
  refine run_cond (.t rfl) rfl (fun h1 => ?_) (fun h1 => ?_)
  · try simp only [Bool.and_eq_true, Bool.or_eq_true, Bool.not_eq_true', Bool.and_eq_false_iff, Bool.or_eq_false_iff, Bool.not_eq_false', decide_eq_true_eq, decide_eq_false_iff_not, beq_iff_eq, bne_iff_ne, beq_eq_false_iff_ne, bne_eq_false_iff_eq, Bool.true_and, ne_eq, Decidable.not_not, Int.not_lt, Int.not_le, Nat.not_lt, Nat.not_le, strB_nil, strB_nil', strB_nnil, strB_nnil'] at h1
    refine run_seq ?_
    refine run_region (q_assign .n (.c rfl) rfl <|
        Lex.nil) ?_
    exact run_ret [] (.cons (.t rfl rfl) .nil) rfl trivial rfl
  · try simp only [Bool.and_eq_true, Bool.or_eq_true, Bool.not_eq_true', Bool.and_eq_false_iff, Bool.or_eq_false_iff, Bool.not_eq_false', decide_eq_true_eq, decide_eq_false_iff_not, beq_iff_eq, bne_iff_ne, beq_eq_false_iff_ne, bne_eq_false_iff_eq, Bool.true_and, ne_eq, Decidable.not_not, Int.not_lt, Int.not_le, Nat.not_lt, Nat.not_le, strB_nil, strB_nil', strB_nnil, strB_nnil'] at h1
    refine run_skip ?_
    refine run_seq ?_
    refine run_region (q_move .n (.t rfl) rfl <|
        q_assign .n (.t rfl) rfl <|
        Lex.nil) ?_
    exact run_ret [] (.cons (.t rfl rfl) .nil) rfl trivial rfl

/-! ### laws_szAirwayS -/
theorem c_laws_szAirwayS (a : List gAirway) (left : Int) : Con Try.prog 33 [.sl 7 (a.map gAirway.v), .int .i64 left] [] (.int .i64 (m_laws_szAirwayS a left)) ([]) := by
  refine con_intro (out := fun r : Int => ((.int .i64 r : V), ([] : List (Nat × Option O)))) (r := (m_laws_szAirwayS a left)) Try.func33 rfl Try.ntmps33 rfl ?_
  refine run_fact (t := 0) rfl fun hl => ?_
  have l1 := hl; clear hl; simp only [List.length_map] at l1
  refine run_seq ?_
  refine run_region (q_assign .n (.c rfl) rfl <|
      Lex.nil) ?_
  refine run_seq ?_
  refine run_region (q_move .n (.t rfl) rfl <|
      q_move .n (.t rfl) rfl <|
      q_len .n (.t rfl) rfl len_map ss_22 rfl <|
      q_int .n (.t rfl) (.t rfl) rfl rfl <|
      q_assign .n (.t rfl) rfl <|
      Lex.nil) ?_
  refine run_seq ?_
  refine run_seq ?_
  refine run_region (q_move .n (.t rfl) rfl <|
      q_int .n (.t rfl) (.c rfl) rfl rfl <|
      Lex.nil) ?_
  refine run_cond (.t rfl) rfl (fun h2 => ?_) (fun h2 => ?_)
  · try simp only [Bool.and_eq_true, Bool.or_eq_true, Bool.not_eq_true', Bool.and_eq_false_iff, Bool.or_eq_false_iff, Bool.not_eq_false', decide_eq_true_eq, decide_eq_false_iff_not, beq_iff_eq, bne_iff_ne, beq_eq_false_iff_ne, bne_eq_false_iff_eq, Bool.true_and, ne_eq, Decidable.not_not, Int.not_lt, Int.not_le, Nat.not_lt, Nat.not_le, strB_nil, strB_nil', strB_nnil, strB_nnil'] at h2
    refine run_seq ?_
    refine run_region (q_assign .n (.c rfl) rfl <|
        Lex.nil) ?_
    exact run_ret [] (.cons (.t rfl rfl) .nil) rfl trivial rfl
  · try simp only [Bool.and_eq_true, Bool.or_eq_true, Bool.not_eq_true', Bool.and_eq_false_iff, Bool.or_eq_false_iff, Bool.not_eq_false', decide_eq_true_eq, decide_eq_false_iff_not, beq_iff_eq, bne_iff_ne, beq_eq_false_iff_ne, bne_eq_false_iff_eq, Bool.true_and, ne_eq, Decidable.not_not, Int.not_lt, Int.not_le, Nat.not_lt, Nat.not_le, strB_nil, strB_nil', strB_nnil, strB_nnil'] at h2
    refine run_skip ?_
    refine run_seq ?_
    refine run_seq ?_
    refine run_region (q_assign .n (.c rfl) rfl <|
        Lex.nil) ?_
    refine run_block ?_
    refine run_LOOP (m_laws_szAirwayS_b1 a left) _ _ _ rfl (fun (x1 : Int × Int) => 0 ≤ x1.2 ∧ x1.2 ≤ (a.length : Int)) (fun x1 => 0 ≤ x1.2 ∧ x1.2 ≤ (a.length : Int) ∧ (a.length : Int) ≤ x1.2) (fun x1 => ((a.length : Int) - x1.2 : Int).toNat) (fun x1 => ⟨[(0, some (true, .sl 7 (a.map gAirway.v))), (1, some (true, .int .i64 x1.1)), (5, some (true, .int .i64 x1.2))], []⟩) (fun x1 => ⟨[(1, some (true, .int .i64 x1.1))], []⟩) ⟨by first | omega | assumption | (simp only [List.length_append, List.length_cons, List.length_nil, List.length_replicate, put_len] at * <;> omega), by first | omega | assumption | (simp only [List.length_append, List.length_cons, List.length_nil, List.length_replicate, put_len] at * <;> omega)⟩ (by first | omega | assumption | (simp only [List.length_append, List.length_cons, List.length_nil, List.length_replicate, put_len] at * <;> omega)) (sub_of [] ⟨rfl, rfl, rfl, trivial⟩ trivial rfl) ?_ ?_
    · intro x1 i7
      obtain ⟨e8, e9, e10⟩ := i7
      try dsimp only at *
      refine run_seq ?_
      refine run_region (q_move .n (.t rfl) rfl <|
          q_assign .n (.t rfl) rfl <|
          Lex.nil) ?_
      exact run_ret [] (.cons (.t rfl rfl) .nil) rfl trivial rfl
    · intro rec1 k1 hk3 x1 i4
      obtain ⟨e11, e12⟩ := i4
      try dsimp only at *
      refine run_seq ?_
      refine run_seq ?_
      refine run_region (q_move .n (.t rfl) rfl <|
          q_move .n (.t rfl) rfl <|
          q_len .n (.t rfl) rfl len_map ss_22 rfl <|
          q_int .n (.t rfl) (.t rfl) rfl rfl <|
          Lex.nil) ?_
      refine run_cond (.t rfl) rfl (fun h5 => ?_) (fun h5 => ?_)
      · try simp only [Bool.and_eq_true, Bool.or_eq_true, Bool.not_eq_true', Bool.and_eq_false_iff, Bool.or_eq_false_iff, Bool.not_eq_false', decide_eq_true_eq, decide_eq_false_iff_not, beq_iff_eq, bne_iff_ne, beq_eq_false_iff_ne, bne_eq_false_iff_eq, Bool.true_and, ne_eq, Decidable.not_not, Int.not_lt, Int.not_le, Nat.not_lt, Nat.not_le, strB_nil, strB_nil', strB_nnil, strB_nnil'] at h5
        refine run_skip ?_
        refine run_seq ?_
        refine run_block ?_
        refine run_seq ?_
        refine run_region (q_move .n (.t rfl) rfl <|
            q_move .n (.t rfl) rfl <|
            q_idx_rm .n (.t rfl) (.t rfl) sl_22 (fun _ => by first | omega | assumption | (simp only [List.length_append, List.length_cons, List.length_nil, List.length_replicate, put_len] at * <;> omega)) rfl <|
            q_ldN_ro .n (.t rfl) ag_123 rfl rfl rfl <|
            q_move .n (.t rfl) rfl <|
            q_call0 (full := false) .n .f en_71 (.cons (.t rfl) (.cons (.t rfl) .nil)) (.cons (.sts rfl) (.cons (.b (.a (.same rfl))) .nil)) (fun hg => c_laws_szAirway (at' a x1.2) x1.1) rfl (fun h => Bool.noConfusion h) rfl <|
            q_assign .n (.t rfl) rfl <|
            Lex.nil) ?_
        refine run_seq ?_
        refine run_region (q_move .n (.t rfl) rfl <|
            q_int .n (.t rfl) (.c rfl) rfl rfl <|
            Lex.nil) ?_
        refine run_cond (.t rfl) rfl (fun h6 => ?_) (fun h6 => ?_)
        · try simp only [Bool.and_eq_true, Bool.or_eq_true, Bool.not_eq_true', Bool.and_eq_false_iff, Bool.or_eq_false_iff, Bool.not_eq_false', decide_eq_true_eq, decide_eq_false_iff_not, beq_iff_eq, bne_iff_ne, beq_eq_false_iff_ne, bne_eq_false_iff_eq, Bool.true_and, ne_eq, Decidable.not_not, Int.not_lt, Int.not_le, Nat.not_lt, Nat.not_le, strB_nil, strB_nil', strB_nnil, strB_nnil'] at h6
          try have hf0h6 := szAirway_impA (by assumption) (by omega) (by omega) h6
          try have hf1h6 := szAirway_impA (by assumption) (by omega) (by omega) h6.1
          try have hf2h6 := szAirway_impA (by assumption) (by omega) (by omega) h6.2
          try have hf3h6 := szAirway_impA (by assumption) (by omega) (by omega) h6.1.1
          try have hf4h6 := szAirway_impA (by assumption) (by omega) (by omega) h6.1.2
          try have hf5h6 := szAirway_impA (by assumption) (by omega) (by omega) h6.2.1
          try have hf6h6 := szAirway_impA (by assumption) (by omega) (by omega) h6.2.2
          try have hf7h6 := szAirway_impB (by assumption) (by omega) (by omega) h6
          try have hf8h6 := szAirway_impB (by assumption) (by omega) (by omega) h6.1
          try have hf9h6 := szAirway_impB (by assumption) (by omega) (by omega) h6.2
          try have hf10h6 := szAirway_impB (by assumption) (by omega) (by omega) h6.1.1
          try have hf11h6 := szAirway_impB (by assumption) (by omega) (by omega) h6.1.2
          try have hf12h6 := szAirway_impB (by assumption) (by omega) (by omega) h6.2.1
          try have hf13h6 := szAirway_impB (by assumption) (by omega) (by omega) h6.2.2
          refine run_seq ?_
          refine run_region (q_assign .n (.c rfl) rfl <|
              Lex.nil) ?_
          exact run_ret [] (.cons (.t rfl rfl) .nil) rfl trivial rfl
        · try simp only [Bool.and_eq_true, Bool.or_eq_true, Bool.not_eq_true', Bool.and_eq_false_iff, Bool.or_eq_false_iff, Bool.not_eq_false', decide_eq_true_eq, decide_eq_false_iff_not, beq_iff_eq, bne_iff_ne, beq_eq_false_iff_ne, bne_eq_false_iff_eq, Bool.true_and, ne_eq, Decidable.not_not, Int.not_lt, Int.not_le, Nat.not_lt, Nat.not_le, strB_nil, strB_nil', strB_nnil, strB_nnil'] at h6
          try have hf0h6 := szAirway_impA (by assumption) (by omega) (by omega) h6
          try have hf1h6 := szAirway_impA (by assumption) (by omega) (by omega) h6.1
          try have hf2h6 := szAirway_impA (by assumption) (by omega) (by omega) h6.2
          try have hf3h6 := szAirway_impA (by assumption) (by omega) (by omega) h6.1.1
          try have hf4h6 := szAirway_impA (by assumption) (by omega) (by omega) h6.1.2
          try have hf5h6 := szAirway_impA (by assumption) (by omega) (by omega) h6.2.1
          try have hf6h6 := szAirway_impA (by assumption) (by omega) (by omega) h6.2.2
          try have hf7h6 := szAirway_impB (by assumption) (by omega) (by omega) h6
          try have hf8h6 := szAirway_impB (by assumption) (by omega) (by omega) h6.1
          try have hf9h6 := szAirway_impB (by assumption) (by omega) (by omega) h6.2
          try have hf10h6 := szAirway_impB (by assumption) (by omega) (by omega) h6.1.1
          try have hf11h6 := szAirway_impB (by assumption) (by omega) (by omega) h6.1.2
          try have hf12h6 := szAirway_impB (by assumption) (by omega) (by omega) h6.2.1
          try have hf13h6 := szAirway_impB (by assumption) (by omega) (by omega) h6.2.2
          refine run_skip ?_
          refine run_endB ?_
          refine run_region (q_move .n (.t rfl) rfl <|
              q_add .n (.t rfl) (.c rfl) (fun _ => by first | omega | assumption | (simp only [List.length_append, List.length_cons, List.length_nil, List.length_replicate, put_len] at * <;> omega)) rfl <|
              q_assign .n (.t rfl) rfl <|
              Lex.nil) ?_
          exact run_again (m_laws_szAirway (at' a x1.2) x1.1, x1.2 + 1) ⟨by first | omega | assumption | (simp only [List.length_append, List.length_cons, List.length_nil, List.length_replicate, put_len] at * <;> omega), by first | omega | assumption | (simp only [List.length_append, List.length_cons, List.length_nil, List.length_replicate, put_len] at * <;> omega)⟩ (by first | omega | assumption | (simp only [List.length_append, List.length_cons, List.length_nil, List.length_replicate, put_len] at * <;> omega)) (sub_of [] ⟨rfl, rfl, rfl, trivial⟩ trivial rfl)
      · try simp only [Bool.and_eq_true, Bool.or_eq_true, Bool.not_eq_true', Bool.and_eq_false_iff, Bool.or_eq_false_iff, Bool.not_eq_false', decide_eq_true_eq, decide_eq_false_iff_not, beq_iff_eq, bne_iff_ne, beq_eq_false_iff_ne, bne_eq_false_iff_eq, Bool.true_and, ne_eq, Decidable.not_not, Int.not_lt, Int.not_le, Nat.not_lt, Nat.not_le, strB_nil, strB_nil', strB_nnil, strB_nnil'] at h5
        refine run_exit rfl ?_
        exact run_cont hk3 (x1.1, x1.2) ⟨by first | omega | assumption | (simp only [List.length_append, List.length_cons, List.length_nil, List.length_replicate, put_len] at * <;> omega), by first | omega | assumption | (simp only [List.length_append, List.length_cons, List.length_nil, List.length_replicate, put_len] at * <;> omega), by first | omega | assumption | (simp only [List.length_append, List.length_cons, List.length_nil, List.length_replicate, put_len] at * <;> omega)⟩ (sub_of [] ⟨rfl, trivial⟩ trivial rfl)

/-! ### laws_szMine -/
theorem c_laws_szMine (a : gMine) (left : Int) : Con Try.prog 7 [.st [.int .i64 a.Junctions, .sl 7 (a.Airways.map gAirway.v)], .int .i64 left] [] (.int .i64 (m_laws_szMine a left)) ([]) := by
  refine con_intro (out := fun r : Int => ((.int .i64 r : V), ([] : List (Nat × Option O)))) (r := (m_laws_szMine a left)) Try.func7 rfl Try.ntmps7 rfl ?_
  refine run_factS (t := 0) 1 rfl rfl fun hl => ?_
  have l1 := hl; clear hl; simp only [List.length_map] at l1
  refine run_seq ?_
  refine run_region (q_box (l := 200) .n rfl (.t rfl) rfl rfl rfl rfl <|
      q_assign .n (.c rfl) rfl <|
      Lex.nil) ?_
  refine run_seq ?_
  refine run_region (q_fld_ow .n (.t rfl) fo_24_1 rfl <|
      q_ld1_ow .n (.t rfl) rfl (.inr rfl) (fun _ => rfl) rfl ic_22 rfl <|
      q_move .n (.t rfl) rfl <|
      q_call0 (full := false) .n .f en_33 (.cons (.t rfl) (.cons (.t rfl) .nil)) (.cons (.b (.a (.same rfl))) (.cons (.b (.a (.same rfl))) .nil)) (fun hg => c_laws_szAirwayS a.Airways left) rfl (fun h => Bool.noConfusion h) rfl <|
      q_assign .n (.t rfl) rfl <|
      Lex.nil) ?_
  refine run_seq ?_
  refine run_seq ?_
  refine run_region (q_move .n (.t rfl) rfl <|
      q_int .n (.t rfl) (.c rfl) rfl rfl <|
      Lex.nil) ?_
  refine run_cond (.t rfl) rfl (fun h2 => ?_) (fun h2 => ?_)
  · try simp only [Bool.and_eq_true, Bool.or_eq_true, Bool.not_eq_true', Bool.and_eq_false_iff, Bool.or_eq_false_iff, Bool.not_eq_false', decide_eq_true_eq, decide_eq_false_iff_not, beq_iff_eq, bne_iff_ne, beq_eq_false_iff_ne, bne_eq_false_iff_eq, Bool.true_and, ne_eq, Decidable.not_not, Int.not_lt, Int.not_le, Nat.not_lt, Nat.not_le, strB_nil, strB_nil', strB_nnil, strB_nnil'] at h2
    try have hf0h2 := szAirwayS_impA (by assumption) (by omega) (by omega) h2
    try have hf1h2 := szAirwayS_impA (by assumption) (by omega) (by omega) h2.1
    try have hf2h2 := szAirwayS_impA (by assumption) (by omega) (by omega) h2.2
    try have hf3h2 := szAirwayS_impA (by assumption) (by omega) (by omega) h2.1.1
    try have hf4h2 := szAirwayS_impA (by assumption) (by omega) (by omega) h2.1.2
    try have hf5h2 := szAirwayS_impA (by assumption) (by omega) (by omega) h2.2.1
    try have hf6h2 := szAirwayS_impA (by assumption) (by omega) (by omega) h2.2.2
    try have hf7h2 := szAirwayS_impB (by assumption) (by omega) (by omega) h2
    try have hf8h2 := szAirwayS_impB (by assumption) (by omega) (by omega) h2.1
    try have hf9h2 := szAirwayS_impB (by assumption) (by omega) (by omega) h2.2
    try have hf10h2 := szAirwayS_impB (by assumption) (by omega) (by omega) h2.1.1
    try have hf11h2 := szAirwayS_impB (by assumption) (by omega) (by omega) h2.1.2
    try have hf12h2 := szAirwayS_impB (by assumption) (by omega) (by omega) h2.2.1
    try have hf13h2 := szAirwayS_impB (by assumption) (by omega) (by omega) h2.2.2
    refine run_seq ?_
    refine run_region (q_assign .n (.c rfl) rfl <|
        Lex.nil) ?_
    exact run_ret [] (.cons (.t rfl rfl) .nil) rfl trivial rfl
  · try simp only [Bool.and_eq_true, Bool.or_eq_true, Bool.not_eq_true', Bool.and_eq_false_iff, Bool.or_eq_false_iff, Bool.not_eq_false', decide_eq_true_eq, decide_eq_false_iff_not, beq_iff_eq, bne_iff_ne, beq_eq_false_iff_ne, bne_eq_false_iff_eq, Bool.true_and, ne_eq, Decidable.not_not, Int.not_lt, Int.not_le, Nat.not_lt, Nat.not_le, strB_nil, strB_nil', strB_nnil, strB_nnil'] at h2
    try have hf0h2 := szAirwayS_impA (by assumption) (by omega) (by omega) h2
    try have hf1h2 := szAirwayS_impA (by assumption) (by omega) (by omega) h2.1
    try have hf2h2 := szAirwayS_impA (by assumption) (by omega) (by omega) h2.2
    try have hf3h2 := szAirwayS_impA (by assumption) (by omega) (by omega) h2.1.1
    try have hf4h2 := szAirwayS_impA (by assumption) (by omega) (by omega) h2.1.2
    try have hf5h2 := szAirwayS_impA (by assumption) (by omega) (by omega) h2.2.1
    try have hf6h2 := szAirwayS_impA (by assumption) (by omega) (by omega) h2.2.2
    try have hf7h2 := szAirwayS_impB (by assumption) (by omega) (by omega) h2
    try have hf8h2 := szAirwayS_impB (by assumption) (by omega) (by omega) h2.1
    try have hf9h2 := szAirwayS_impB (by assumption) (by omega) (by omega) h2.2
    try have hf10h2 := szAirwayS_impB (by assumption) (by omega) (by omega) h2.1.1
    try have hf11h2 := szAirwayS_impB (by assumption) (by omega) (by omega) h2.1.2
    try have hf12h2 := szAirwayS_impB (by assumption) (by omega) (by omega) h2.2.1
    try have hf13h2 := szAirwayS_impB (by assumption) (by omega) (by omega) h2.2.2
    refine run_skip ?_
    refine run_seq ?_
    refine run_region (q_move .n (.t rfl) rfl <|
        q_assign .n (.t rfl) rfl <|
        Lex.nil) ?_
    exact run_ret [] (.cons (.t rfl rfl) .nil) rfl trivial rfl

/-! ### laws_szCrew -/
theorem c_laws_szCrew (a : gCrew) (left : Int) : Con Try.prog 8 [.st [.str a.Id, .int .i64 a.Junction, .int .i64 a.Speed], .int .i64 left] [] (.int .i64 (m_laws_szCrew a left)) ([]) := by
  refine con_intro (out := fun r : Int => ((.int .i64 r : V), ([] : List (Nat × Option O)))) (r := (m_laws_szCrew a left)) Try.func8 rfl Try.ntmps8 rfl ?_
  refine run_seq ?_
  refine run_region (q_box (l := 200) .n rfl (.t rfl) rfl rfl rfl rfl <|
      q_assign .n (.c rfl) rfl <|
      Lex.nil) ?_
  refine run_seq ?_
  refine run_region (q_move .n (.t rfl) rfl <|
      q_fld_ow .n (.t rfl) fo_27_0 rfl <|
      q_ld1_ow .n (.t rfl) rfl (.inr rfl) (fun _ => rfl) rfl ic_9 rfl <|
      q_len .n (.t rfl) rfl rfl st_9 rfl <|
      q_int .n (.t rfl) (.t rfl) rfl rfl <|
      q_assign .n (.t rfl) rfl <|
      Lex.nil) ?_
  refine run_seq ?_
  refine run_seq ?_
  refine run_region (q_move .n (.t rfl) rfl <|
      q_int .n (.t rfl) (.c rfl) rfl rfl <|
      Lex.nil) ?_
  refine run_cond (.t rfl) rfl (fun h1 => ?_) (fun h1 => ?_)
  · try simp only [Bool.and_eq_true, Bool.or_eq_true, Bool.not_eq_true', Bool.and_eq_false_iff, Bool.or_eq_false_iff, Bool.not_eq_false', decide_eq_true_eq, decide_eq_false_iff_not, beq_iff_eq, bne_iff_ne, beq_eq_false_iff_ne, bne_eq_false_iff_eq, Bool.true_and, ne_eq, Decidable.not_not, Int.not_lt, Int.not_le, Nat.not_lt, Nat.not_le, strB_nil, strB_nil', strB_nnil, strB_nnil'] at h1
    refine run_seq ?_
    refine run_region (q_assign .n (.c rfl) rfl <|
        Lex.nil) ?_
    exact run_ret [] (.cons (.t rfl rfl) .nil) rfl trivial rfl
  · try simp only [Bool.and_eq_true, Bool.or_eq_true, Bool.not_eq_true', Bool.and_eq_false_iff, Bool.or_eq_false_iff, Bool.not_eq_false', decide_eq_true_eq, decide_eq_false_iff_not, beq_iff_eq, bne_iff_ne, beq_eq_false_iff_ne, bne_eq_false_iff_eq, Bool.true_and, ne_eq, Decidable.not_not, Int.not_lt, Int.not_le, Nat.not_lt, Nat.not_le, strB_nil, strB_nil', strB_nnil, strB_nnil'] at h1
    refine run_skip ?_
    refine run_seq ?_
    refine run_region (q_move .n (.t rfl) rfl <|
        q_assign .n (.t rfl) rfl <|
        Lex.nil) ?_
    exact run_ret [] (.cons (.t rfl rfl) .nil) rfl trivial rfl

/-! ### spec_l00In -/
theorem c_spec_l00In (n_ : Int) (low : Int) (high : Int) : Con Try.prog 65 [.int .i64 n_, .int .i64 low, .int .i64 high] [] (.bool (m_spec_l00In n_ low high)) ([]) := by
  refine con_intro (out := fun r : Bool => ((.bool r : V), ([] : List (Nat × Option O)))) (r := (m_spec_l00In n_ low high)) Try.func65 rfl Try.ntmps65 rfl ?_
  refine run_seq ?_
  refine run_region (q_assign .n (.c rfl) rfl <|
      Lex.nil) ?_
  refine run_seq ?_
  refine run_region (q_move .n (.t rfl) rfl <|
      q_move .n (.t rfl) rfl <|
      q_int .n (.t rfl) (.t rfl) rfl rfl <|
      q_move .n (.t rfl) rfl <|
      q_move (.t rfl rfl) (.t rfl) rfl <|
      q_move (.t rfl rfl) (.t rfl) rfl <|
      q_int (.t rfl rfl) (.u rfl id) (.u rfl id) rfl rfl <|
      q_and .n (.t rfl) (.u rfl id) rfl <|
      q_assign .n (.t rfl) rfl <|
      Lex.nil) ?_
  exact run_ret [] (.cons (.t rfl rfl) .nil) rfl trivial rfl

/-! ### spec_l01Small -/
theorem c_spec_l01Small (c_ : Int) : Con Try.prog 137 [.int .u8 c_] [] (.bool (m_spec_l01Small c_)) ([]) := by
  refine con_intro (out := fun r : Bool => ((.bool r : V), ([] : List (Nat × Option O)))) (r := (m_spec_l01Small c_)) Try.func137 rfl Try.ntmps137 rfl ?_
  refine run_seq ?_
  refine run_region (q_assign .n (.c rfl) rfl <|
      Lex.nil) ?_
  refine run_seq ?_
  refine run_region (q_move .n (.t rfl) rfl <|
      q_int .n (.t rfl) (.c rfl) rfl rfl <|
      q_move .n (.t rfl) rfl <|
      q_move (.t rfl rfl) (.t rfl) rfl <|
      q_int (.t rfl rfl) (.u rfl id) (.c rfl) rfl rfl <|
      q_and .n (.t rfl) (.u rfl id) rfl <|
      q_assign .n (.t rfl) rfl <|
      Lex.nil) ?_
  exact run_ret [] (.cons (.t rfl rfl) .nil) rfl trivial rfl

/-! ### spec_l01Digit -/
theorem c_spec_l01Digit (c_ : Int) : Con Try.prog 138 [.int .u8 c_] [] (.bool (m_spec_l01Digit c_)) ([]) := by
  refine con_intro (out := fun r : Bool => ((.bool r : V), ([] : List (Nat × Option O)))) (r := (m_spec_l01Digit c_)) Try.func138 rfl Try.ntmps138 rfl ?_
  refine run_seq ?_
  refine run_region (q_assign .n (.c rfl) rfl <|
      Lex.nil) ?_
  refine run_seq ?_
  refine run_region (q_move .n (.t rfl) rfl <|
      q_int .n (.t rfl) (.c rfl) rfl rfl <|
      q_move .n (.t rfl) rfl <|
      q_move (.t rfl rfl) (.t rfl) rfl <|
      q_int (.t rfl rfl) (.u rfl id) (.c rfl) rfl rfl <|
      q_and .n (.t rfl) (.u rfl id) rfl <|
      q_assign .n (.t rfl) rfl <|
      Lex.nil) ?_
  exact run_ret [] (.cons (.t rfl rfl) .nil) rfl trivial rfl

/-! ### spec_l01Name -/
theorem c_spec_l01Name (s_ : List UInt8) : Con Try.prog 113 [.str s_] [] (.bool (m_spec_l01Name s_)) ([]) := by
  refine con_intro (out := fun r : Bool => ((.bool r : V), ([] : List (Nat × Option O)))) (r := (m_spec_l01Name s_)) Try.func113 rfl Try.ntmps113 rfl ?_
  refine run_seq ?_
  refine run_region (q_assign .n (.c rfl) rfl <|
      Lex.nil) ?_
  refine run_seq ?_
  refine run_seq ?_
  refine run_region (q_move .n (.t rfl) rfl <|
      q_strcmp .n (.t rfl) (.c rfl) rfl rfl <|
      q_move .n (.t rfl) rfl <|
      q_move (.f rfl rfl) (.t rfl) rfl <|
      q_len (.f rfl rfl) (.u rfl id) rfl rfl st_9 rfl <|
      q_int (.f rfl rfl) (.u rfl id) (.c rfl) rfl rfl <|
      q_or .n (.t rfl) (.u rfl id) rfl <|
      q_move .n (.t rfl) rfl <|
      q_move (.f rfl rfl) (.t rfl) rfl <|
      q_strat (.f rfl rfl) (.u rfl id) (.c rfl) st_9 (fun hg => by simp only [Bool.and_eq_true, Bool.or_eq_true, Bool.not_eq_true', Bool.and_eq_false_iff, Bool.or_eq_false_iff, Bool.not_eq_false', decide_eq_true_eq, decide_eq_false_iff_not, beq_iff_eq, bne_iff_ne, beq_eq_false_iff_ne, bne_eq_false_iff_eq, Bool.true_and, ne_eq, Decidable.not_not, Int.not_lt, Int.not_le, Nat.not_lt, Nat.not_le, strB_nil, strB_nil', strB_nnil, strB_nnil'] at hg; first | omega | assumption | (simp only [List.length_append, List.length_cons, List.length_nil, List.length_replicate, put_len] at * <;> omega)) rfl <|
      q_call0 (full := false) (.f rfl rfl) .f en_137 (.cons (.u rfl id) .nil) (.cons (.b (.a (.same rfl))) .nil) (fun hg => c_spec_l01Small (((s_.getD (0 : Int).toNat 0).toNat : Nat) : Int)) rfl (fun h => Bool.noConfusion h) rfl <|
      q_not (.f rfl rfl) (.u rfl id) rfl <|
      q_or .n (.t rfl) (.u rfl id) rfl <|
      Lex.nil) ?_
  refine run_cond (.t rfl) rfl (fun h1 => ?_) (fun h1 => ?_)
  · try simp only [Bool.and_eq_true, Bool.or_eq_true, Bool.not_eq_true', Bool.and_eq_false_iff, Bool.or_eq_false_iff, Bool.not_eq_false', decide_eq_true_eq, decide_eq_false_iff_not, beq_iff_eq, bne_iff_ne, beq_eq_false_iff_ne, bne_eq_false_iff_eq, Bool.true_and, ne_eq, Decidable.not_not, Int.not_lt, Int.not_le, Nat.not_lt, Nat.not_le, strB_nil, strB_nil', strB_nnil, strB_nnil'] at h1
    refine run_seq ?_
    refine run_region (q_assign .n (.c rfl) rfl <|
        Lex.nil) ?_
    exact run_ret [] (.cons (.t rfl rfl) .nil) rfl trivial rfl
  · try simp only [Bool.and_eq_true, Bool.or_eq_true, Bool.not_eq_true', Bool.and_eq_false_iff, Bool.or_eq_false_iff, Bool.not_eq_false', decide_eq_true_eq, decide_eq_false_iff_not, beq_iff_eq, bne_iff_ne, beq_eq_false_iff_ne, bne_eq_false_iff_eq, Bool.true_and, ne_eq, Decidable.not_not, Int.not_lt, Int.not_le, Nat.not_lt, Nat.not_le, strB_nil, strB_nil', strB_nnil, strB_nnil'] at h1
    refine run_skip ?_
    refine run_seq ?_
    refine run_seq ?_
    refine run_region (q_assign .n (.c rfl) rfl <|
        Lex.nil) ?_
    refine run_block ?_
    refine run_LOOP (m_spec_l01Name_b1 s_) _ _ _ rfl (fun (x1 : Int) => 0 ≤ x1 ∧ x1 ≤ (s_.length : Int)) (fun x1 => 0 ≤ x1 ∧ x1 ≤ (s_.length : Int) ∧ (s_.length : Int) ≤ x1) (fun x1 => ((s_.length : Int) - x1 : Int).toNat) (fun x1 => ⟨[(0, some (true, .str s_)), (3, some (true, .int .i64 x1))], []⟩) (fun x1 => ⟨[], []⟩) ⟨by first | omega | assumption | (simp only [List.length_append, List.length_cons, List.length_nil, List.length_replicate, put_len] at * <;> omega), by first | omega | assumption | (simp only [List.length_append, List.length_cons, List.length_nil, List.length_replicate, put_len] at * <;> omega)⟩ (by first | omega | assumption | (simp only [List.length_append, List.length_cons, List.length_nil, List.length_replicate, put_len] at * <;> omega)) (sub_of [] ⟨rfl, rfl, trivial⟩ trivial rfl) ?_ ?_
    · intro x1 i6
      obtain ⟨e7, e8, e9⟩ := i6
      try dsimp only at *
      refine run_seq ?_
      refine run_region (q_assign .n (.c rfl) rfl <|
          Lex.nil) ?_
      exact run_ret [] (.cons (.t rfl rfl) .nil) rfl trivial rfl
    · intro rec1 k1 hk2 x1 i3
      obtain ⟨e10, e11⟩ := i3
      try dsimp only at *
      refine run_seq ?_
      refine run_seq ?_
      refine run_region (q_move .n (.t rfl) rfl <|
          q_move .n (.t rfl) rfl <|
          q_len .n (.t rfl) rfl rfl st_9 rfl <|
          q_int .n (.t rfl) (.t rfl) rfl rfl <|
          Lex.nil) ?_
      refine run_cond (.t rfl) rfl (fun h4 => ?_) (fun h4 => ?_)
      · try simp only [Bool.and_eq_true, Bool.or_eq_true, Bool.not_eq_true', Bool.and_eq_false_iff, Bool.or_eq_false_iff, Bool.not_eq_false', decide_eq_true_eq, decide_eq_false_iff_not, beq_iff_eq, bne_iff_ne, beq_eq_false_iff_ne, bne_eq_false_iff_eq, Bool.true_and, ne_eq, Decidable.not_not, Int.not_lt, Int.not_le, Nat.not_lt, Nat.not_le, strB_nil, strB_nil', strB_nnil, strB_nnil'] at h4
        refine run_skip ?_
        refine run_seq ?_
        refine run_block ?_
        refine run_seq ?_
        refine run_region (q_move .n (.t rfl) rfl <|
            q_move .n (.t rfl) rfl <|
            q_strat .n (.t rfl) (.t rfl) st_9 (fun _ => by first | omega | assumption | (simp only [List.length_append, List.length_cons, List.length_nil, List.length_replicate, put_len] at * <;> omega)) rfl <|
            q_call0 (full := false) .n .f en_137 (.cons (.t rfl) .nil) (.cons (.b (.a (.same rfl))) .nil) (fun hg => c_spec_l01Small (((s_.getD x1.toNat 0).toNat : Nat) : Int)) rfl (fun h => Bool.noConfusion h) rfl <|
            q_not .n (.t rfl) rfl <|
            q_move .n (.t rfl) rfl <|
            q_move (.t rfl rfl) (.t rfl) rfl <|
            q_move (.t rfl rfl) (.t rfl) rfl <|
            q_strat (.t rfl rfl) (.u rfl id) (.u rfl id) st_9 (fun hg => by simp only [Bool.and_eq_true, Bool.or_eq_true, Bool.not_eq_true', Bool.and_eq_false_iff, Bool.or_eq_false_iff, Bool.not_eq_false', decide_eq_true_eq, decide_eq_false_iff_not, beq_iff_eq, bne_iff_ne, beq_eq_false_iff_ne, bne_eq_false_iff_eq, Bool.true_and, ne_eq, Decidable.not_not, Int.not_lt, Int.not_le, Nat.not_lt, Nat.not_le, strB_nil, strB_nil', strB_nnil, strB_nnil'] at hg; first | omega | assumption | (simp only [List.length_append, List.length_cons, List.length_nil, List.length_replicate, put_len] at * <;> omega)) rfl <|
            q_call0 (full := false) (.t rfl rfl) .f en_138 (.cons (.u rfl id) .nil) (.cons (.b (.a (.same rfl))) .nil) (fun hg => c_spec_l01Digit (((s_.getD x1.toNat 0).toNat : Nat) : Int)) rfl (fun h => Bool.noConfusion h) rfl <|
            q_not (.t rfl rfl) (.u rfl id) rfl <|
            q_and .n (.t rfl) (.u rfl id) rfl <|
            Lex.nil) ?_
        refine run_cond (.t rfl) rfl (fun h5 => ?_) (fun h5 => ?_)
        · try simp only [Bool.and_eq_true, Bool.or_eq_true, Bool.not_eq_true', Bool.and_eq_false_iff, Bool.or_eq_false_iff, Bool.not_eq_false', decide_eq_true_eq, decide_eq_false_iff_not, beq_iff_eq, bne_iff_ne, beq_eq_false_iff_ne, bne_eq_false_iff_eq, Bool.true_and, ne_eq, Decidable.not_not, Int.not_lt, Int.not_le, Nat.not_lt, Nat.not_le, strB_nil, strB_nil', strB_nnil, strB_nnil'] at h5
          refine run_seq ?_
          refine run_region (q_assign .n (.c rfl) rfl <|
              Lex.nil) ?_
          exact run_ret [] (.cons (.t rfl rfl) .nil) rfl trivial rfl
        · try simp only [Bool.and_eq_true, Bool.or_eq_true, Bool.not_eq_true', Bool.and_eq_false_iff, Bool.or_eq_false_iff, Bool.not_eq_false', decide_eq_true_eq, decide_eq_false_iff_not, beq_iff_eq, bne_iff_ne, beq_eq_false_iff_ne, bne_eq_false_iff_eq, Bool.true_and, ne_eq, Decidable.not_not, Int.not_lt, Int.not_le, Nat.not_lt, Nat.not_le, strB_nil, strB_nil', strB_nnil, strB_nnil'] at h5
          refine run_skip ?_
          refine run_endB ?_
          refine run_region (q_move .n (.t rfl) rfl <|
              q_add .n (.t rfl) (.c rfl) (fun _ => by first | omega | assumption | (simp only [List.length_append, List.length_cons, List.length_nil, List.length_replicate, put_len] at * <;> omega)) rfl <|
              q_assign .n (.t rfl) rfl <|
              Lex.nil) ?_
          exact run_again (x1 + 1) ⟨by first | omega | assumption | (simp only [List.length_append, List.length_cons, List.length_nil, List.length_replicate, put_len] at * <;> omega), by first | omega | assumption | (simp only [List.length_append, List.length_cons, List.length_nil, List.length_replicate, put_len] at * <;> omega)⟩ (by first | omega | assumption | (simp only [List.length_append, List.length_cons, List.length_nil, List.length_replicate, put_len] at * <;> omega)) (sub_of [] ⟨rfl, rfl, trivial⟩ trivial rfl)
      · try simp only [Bool.and_eq_true, Bool.or_eq_true, Bool.not_eq_true', Bool.and_eq_false_iff, Bool.or_eq_false_iff, Bool.not_eq_false', decide_eq_true_eq, decide_eq_false_iff_not, beq_iff_eq, bne_iff_ne, beq_eq_false_iff_ne, bne_eq_false_iff_eq, Bool.true_and, ne_eq, Decidable.not_not, Int.not_lt, Int.not_le, Nat.not_lt, Nat.not_le, strB_nil, strB_nil', strB_nnil, strB_nnil'] at h4
        refine run_exit rfl ?_
        exact run_cont hk2 x1 ⟨by first | omega | assumption | (simp only [List.length_append, List.length_cons, List.length_nil, List.length_replicate, put_len] at * <;> omega), by first | omega | assumption | (simp only [List.length_append, List.length_cons, List.length_nil, List.length_replicate, put_len] at * <;> omega), by first | omega | assumption | (simp only [List.length_append, List.length_cons, List.length_nil, List.length_replicate, put_len] at * <;> omega)⟩ (sub_of [] trivial trivial rfl)

/-! ### spec_l03Ok -/
theorem c_spec_l03Ok (a : gAirway) : Con Try.prog 111 [.rp [.str a.Id, .int .i64 a.From, .int .i64 a.To, .int .i64 a.Length, .int .i64 a.Section, .int .i64 a.Friction, .int .i64 a.Shock]] [] (.bool (m_spec_l03Ok a)) ([]) := by
  refine con_intro (out := fun r : Bool => ((.bool r : V), ([] : List (Nat × Option O)))) (r := (m_spec_l03Ok a)) Try.func111 rfl Try.ntmps111 rfl ?_
  refine run_seq ?_
  refine run_region (q_assign .n (.c rfl) rfl <|
      Lex.nil) ?_
  refine run_seq ?_
  refine run_seq ?_
  refine run_draw fmo (q_move .n (.t rfl) rfl <|
      q_nilc_ro .n (.t rfl) rfl <|
      q_fld_ro .n (.t rfl) fo_128_0 rfl <|
      q_ld1_ro .n (.t rfl) rfl ic_9 rfl <|
      q_call0 (full := false) .n .f en_113 (.cons (.t rfl) .nil) (.cons (.b (.a (.same rfl))) .nil) (fun hg => c_spec_l01Name a.Id) rfl (fun h => Bool.noConfusion h) rfl <|
      q_not .n (.t rfl) rfl <|
      q_move .n (.t rfl) rfl <|
      q_move (.f rfl rfl) (.t rfl) rfl <|
      q_nilc_ro (.f rfl rfl) (.u rfl id) rfl <|
      q_fld_ro (.f rfl rfl) (.u rfl id) fo_128_1 rfl <|
      q_ld1_ro (.f rfl rfl) (.u rfl id) rfl ic_2 rfl <|
      q_call0 (full := false) (.f rfl rfl) .f en_65 (.cons (.u rfl id) (.cons (.c rfl) (.cons (.c rfl) .nil))) (.cons (.b (.a (.same rfl))) (.cons (.b (.a (.same rfl))) (.cons (.b (.a (.same rfl))) .nil))) (fun hg => c_spec_l00In a.From 0 15) rfl (fun h => Bool.noConfusion h) rfl <|
      q_not (.f rfl rfl) (.u rfl id) rfl <|
      q_or .n (.t rfl) (.u rfl id) rfl <|
      q_move .n (.t rfl) rfl <|
      q_move (.f rfl rfl) (.t rfl) rfl <|
      q_nilc_ro (.f rfl rfl) (.u rfl id) rfl <|
      q_fld_ro (.f rfl rfl) (.u rfl id) fo_128_2 rfl <|
      q_ld1_ro (.f rfl rfl) (.u rfl id) rfl ic_2 rfl <|
      q_call0 (full := false) (.f rfl rfl) .f en_65 (.cons (.u rfl id) (.cons (.c rfl) (.cons (.c rfl) .nil))) (.cons (.b (.a (.same rfl))) (.cons (.b (.a (.same rfl))) (.cons (.b (.a (.same rfl))) .nil))) (fun hg => c_spec_l00In a.To 0 15) rfl (fun h => Bool.noConfusion h) rfl <|
      q_not (.f rfl rfl) (.u rfl id) rfl <|
      q_or .n (.t rfl) (.u rfl id) rfl <|
      q_move .n (.t rfl) rfl <|
      q_move (.f rfl rfl) (.t rfl) rfl <|
      q_nilc_ro (.f rfl rfl) (.u rfl id) rfl <|
      q_fld_ro (.f rfl rfl) (.u rfl id) fo_128_1 rfl <|
      q_ld1_ro (.f rfl rfl) (.u rfl id) rfl ic_2 rfl <|
      q_move (.f rfl rfl) (.t rfl) rfl <|
      q_nilc_ro (.f rfl rfl) (.u rfl id) rfl <|
      q_fld_ro (.f rfl rfl) (.u rfl id) fo_128_2 rfl <|
      q_ld1_ro (.f rfl rfl) (.u rfl id) rfl ic_2 rfl <|
      q_int (.f rfl rfl) (.u rfl id) (.u rfl id) rfl rfl <|
      q_or .n (.t rfl) (.u rfl id) rfl <|
      Lex.nil) (by kernel_rfl) ?_
  refine run_cond (.t rfl) rfl (fun h1 => ?_) (fun h1 => ?_)
  · try simp only [Bool.and_eq_true, Bool.or_eq_true, Bool.not_eq_true', Bool.and_eq_false_iff, Bool.or_eq_false_iff, Bool.not_eq_false', decide_eq_true_eq, decide_eq_false_iff_not, beq_iff_eq, bne_iff_ne, beq_eq_false_iff_ne, bne_eq_false_iff_eq, Bool.true_and, ne_eq, Decidable.not_not, Int.not_lt, Int.not_le, Nat.not_lt, Nat.not_le, strB_nil, strB_nil', strB_nnil, strB_nnil'] at h1
    try have hf0h1 := l00In_imp h1
    try have hf1h1 := l00In_imp h1.1
    try have hf2h1 := l00In_imp h1.2
    try have hf3h1 := l00In_imp h1.1.1
    try have hf4h1 := l00In_imp h1.1.2
    try have hf5h1 := l00In_imp h1.2.1
    try have hf6h1 := l00In_imp h1.2.2
    try have hf7h1 := l00In_imp h1.1.1.1
    try have hf8h1 := l00In_imp h1.1.1.2
    refine run_seq ?_
    refine run_region (q_assign .n (.c rfl) rfl <|
        Lex.nil) ?_
    exact run_ret [] (.cons (.t rfl rfl) .nil) rfl trivial rfl
  · try simp only [Bool.and_eq_true, Bool.or_eq_true, Bool.not_eq_true', Bool.and_eq_false_iff, Bool.or_eq_false_iff, Bool.not_eq_false', decide_eq_true_eq, decide_eq_false_iff_not, beq_iff_eq, bne_iff_ne, beq_eq_false_iff_ne, bne_eq_false_iff_eq, Bool.true_and, ne_eq, Decidable.not_not, Int.not_lt, Int.not_le, Nat.not_lt, Nat.not_le, strB_nil, strB_nil', strB_nnil, strB_nnil'] at h1
    try have hf0h1 := l00In_imp h1
    try have hf1h1 := l00In_imp h1.1
    try have hf2h1 := l00In_imp h1.2
    try have hf3h1 := l00In_imp h1.1.1
    try have hf4h1 := l00In_imp h1.1.2
    try have hf5h1 := l00In_imp h1.2.1
    try have hf6h1 := l00In_imp h1.2.2
    try have hf7h1 := l00In_imp h1.1.1.1
    try have hf8h1 := l00In_imp h1.1.1.2
    refine run_skip ?_
    refine run_seq ?_
    refine run_region (q_move .n (.t rfl) rfl <|
        q_nilc_ro .n (.t rfl) rfl <|
        q_fld_ro .n (.t rfl) fo_128_3 rfl <|
        q_ld1_ro .n (.t rfl) rfl ic_2 rfl <|
        q_call0 (full := false) .n .f en_65 (.cons (.t rfl) (.cons (.c rfl) (.cons (.c rfl) .nil))) (.cons (.b (.a (.same rfl))) (.cons (.b (.a (.same rfl))) (.cons (.b (.a (.same rfl))) .nil))) (fun hg => c_spec_l00In a.Length 1 10000) rfl (fun h => Bool.noConfusion h) rfl <|
        q_move .n (.t rfl) rfl <|
        q_move (.t rfl rfl) (.t rfl) rfl <|
        q_nilc_ro (.t rfl rfl) (.u rfl id) rfl <|
        q_fld_ro (.t rfl rfl) (.u rfl id) fo_128_4 rfl <|
        q_ld1_ro (.t rfl rfl) (.u rfl id) rfl ic_2 rfl <|
        q_call0 (full := false) (.t rfl rfl) .f en_65 (.cons (.u rfl id) (.cons (.c rfl) (.cons (.c rfl) .nil))) (.cons (.b (.a (.same rfl))) (.cons (.b (.a (.same rfl))) (.cons (.b (.a (.same rfl))) .nil))) (fun hg => c_spec_l00In a.Section 50 5000) rfl (fun h => Bool.noConfusion h) rfl <|
        q_and .n (.t rfl) (.u rfl id) rfl <|
        q_move .n (.t rfl) rfl <|
        q_move (.t rfl rfl) (.t rfl) rfl <|
        q_nilc_ro (.t rfl rfl) (.u rfl id) rfl <|
        q_fld_ro (.t rfl rfl) (.u rfl id) fo_128_5 rfl <|
        q_ld1_ro (.t rfl rfl) (.u rfl id) rfl ic_2 rfl <|
        q_call0 (full := false) (.t rfl rfl) .f en_65 (.cons (.u rfl id) (.cons (.c rfl) (.cons (.c rfl) .nil))) (.cons (.b (.a (.same rfl))) (.cons (.b (.a (.same rfl))) (.cons (.b (.a (.same rfl))) .nil))) (fun hg => c_spec_l00In a.Friction 1 1000) rfl (fun h => Bool.noConfusion h) rfl <|
        q_and .n (.t rfl) (.u rfl id) rfl <|
        q_move .n (.t rfl) rfl <|
        q_move (.t rfl rfl) (.t rfl) rfl <|
        q_nilc_ro (.t rfl rfl) (.u rfl id) rfl <|
        q_fld_ro (.t rfl rfl) (.u rfl id) fo_128_6 rfl <|
        q_ld1_ro (.t rfl rfl) (.u rfl id) rfl ic_2 rfl <|
        q_call0 (full := false) (.t rfl rfl) .f en_65 (.cons (.u rfl id) (.cons (.c rfl) (.cons (.c rfl) .nil))) (.cons (.b (.a (.same rfl))) (.cons (.b (.a (.same rfl))) (.cons (.b (.a (.same rfl))) .nil))) (fun hg => c_spec_l00In a.Shock 0 1000) rfl (fun h => Bool.noConfusion h) rfl <|
        q_and .n (.t rfl) (.u rfl id) rfl <|
        q_assign .n (.t rfl) rfl <|
        Lex.nil) ?_
    exact run_ret [] (.cons (.t rfl rfl) .nil) rfl trivial rfl

/-! ### spec_l04Junction -/
theorem c_spec_l04Junction (m_ : gMine) (j : Int) : Con Try.prog 112 [.rp [.int .i64 m_.Junctions, .sl 7 (m_.Airways.map gAirway.v)], .int .i64 j] [] (.bool (m_spec_l04Junction m_ j)) ([]) := by
  refine con_intro (out := fun r : Bool => ((.bool r : V), ([] : List (Nat × Option O)))) (r := (m_spec_l04Junction m_ j)) Try.func112 rfl Try.ntmps112 rfl ?_
  refine run_factP (t := 0) 1 rfl rfl fun hl => ?_
  have l1 := hl; clear hl; simp only [List.length_map] at l1
  refine run_seq ?_
  refine run_region (q_assign .n (.c rfl) rfl <|
      Lex.nil) ?_
  refine run_seq ?_
  refine run_region (q_move .n (.t rfl) rfl <|
      q_move .n (.t rfl) rfl <|
      q_nilc_ro .n (.t rfl) rfl <|
      q_fld_ro .n (.t rfl) fo_34_0 rfl <|
      q_ld1_ro .n (.t rfl) rfl ic_2 rfl <|
      q_int .n (.t rfl) (.c rfl) rfl rfl <|
      q_call0 (full := false) .n .f en_65 (.cons (.t rfl) (.cons (.c rfl) (.cons (.t rfl) .nil))) (.cons (.b (.a (.same rfl))) (.cons (.b (.a (.same rfl))) (.cons (.b (.a (.same rfl))) .nil))) (fun hg => c_spec_l00In j 0 (IntKind.wrap .i64 (m_.Junctions - 1))) rfl (fun h => Bool.noConfusion h) rfl <|
      q_assign .n (.t rfl) rfl <|
      Lex.nil) ?_
  exact run_ret [] (.cons (.t rfl rfl) .nil) rfl trivial rfl

/-! ### spec_l04Ok -/
theorem c_spec_l04Ok (m_ : gMine) : Con Try.prog 72 [.rp [.int .i64 m_.Junctions, .sl 7 (m_.Airways.map gAirway.v)]] [] (.bool (m_spec_l04Ok m_)) ([]) := by
  refine con_intro (out := fun r : Bool => ((.bool r : V), ([] : List (Nat × Option O)))) (r := (m_spec_l04Ok m_)) Try.func72 rfl Try.ntmps72 rfl ?_
  refine run_factP (t := 0) 1 rfl rfl fun hl => ?_
  have l1 := hl; clear hl; simp only [List.length_map] at l1
  refine run_seq ?_
  refine run_region (q_assign .n (.c rfl) rfl <|
      Lex.nil) ?_
  refine run_seq ?_
  refine run_seq ?_
  refine run_region (q_move .n (.t rfl) rfl <|
      q_nilc_ro .n (.t rfl) rfl <|
      q_fld_ro .n (.t rfl) fo_34_0 rfl <|
      q_ld1_ro .n (.t rfl) rfl ic_2 rfl <|
      q_call0 (full := false) .n .f en_65 (.cons (.t rfl) (.cons (.c rfl) (.cons (.c rfl) .nil))) (.cons (.b (.a (.same rfl))) (.cons (.b (.a (.same rfl))) (.cons (.b (.a (.same rfl))) .nil))) (fun hg => c_spec_l00In m_.Junctions 1 16) rfl (fun h => Bool.noConfusion h) rfl <|
      q_not .n (.t rfl) rfl <|
      Lex.nil) ?_
  refine run_cond (.t rfl) rfl (fun h2 => ?_) (fun h2 => ?_)
  · try simp only [Bool.and_eq_true, Bool.or_eq_true, Bool.not_eq_true', Bool.and_eq_false_iff, Bool.or_eq_false_iff, Bool.not_eq_false', decide_eq_true_eq, decide_eq_false_iff_not, beq_iff_eq, bne_iff_ne, beq_eq_false_iff_ne, bne_eq_false_iff_eq, Bool.true_and, ne_eq, Decidable.not_not, Int.not_lt, Int.not_le, Nat.not_lt, Nat.not_le, strB_nil, strB_nil', strB_nnil, strB_nnil'] at h2
    try have hf0h2 := l00In_imp h2
    try have hf1h2 := l00In_imp h2.1
    try have hf2h2 := l00In_imp h2.2
    try have hf3h2 := l00In_imp h2.1.1
    try have hf4h2 := l00In_imp h2.1.2
    try have hf5h2 := l00In_imp h2.2.1
    try have hf6h2 := l00In_imp h2.2.2
    refine run_seq ?_
    refine run_region (q_assign .n (.c rfl) rfl <|
        Lex.nil) ?_
    exact run_ret [] (.cons (.t rfl rfl) .nil) rfl trivial rfl
  · try simp only [Bool.and_eq_true, Bool.or_eq_true, Bool.not_eq_true', Bool.and_eq_false_iff, Bool.or_eq_false_iff, Bool.not_eq_false', decide_eq_true_eq, decide_eq_false_iff_not, beq_iff_eq, bne_iff_ne, beq_eq_false_iff_ne, bne_eq_false_iff_eq, Bool.true_and, ne_eq, Decidable.not_not, Int.not_lt, Int.not_le, Nat.not_lt, Nat.not_le, strB_nil, strB_nil', strB_nnil, strB_nnil'] at h2
    try have hf0h2 := l00In_imp h2
    try have hf1h2 := l00In_imp h2.1
    try have hf2h2 := l00In_imp h2.2
    try have hf3h2 := l00In_imp h2.1.1
    try have hf4h2 := l00In_imp h2.1.2
    try have hf5h2 := l00In_imp h2.2.1
    try have hf6h2 := l00In_imp h2.2.2
    refine run_skip ?_
    refine run_seq ?_
    refine run_seq ?_
    refine run_region (q_assign .n (.c rfl) rfl <|
        Lex.nil) ?_
    refine run_block ?_
    refine run_LOOP (m_spec_l04Ok_b1 m_) _ _ _ rfl (fun (x1 : Int) => 0 ≤ x1 ∧ x1 ≤ (m_.Airways.length : Int)) (fun x1 => 0 ≤ x1 ∧ x1 ≤ (m_.Airways.length : Int) ∧ (m_.Airways.length : Int) ≤ x1) (fun x1 => ((m_.Airways.length : Int) - x1 : Int).toNat) (fun x1 => ⟨[(0, some (true, .rp [.int .i64 m_.Junctions, .sl 7 (m_.Airways.map gAirway.v)])), (3, some (true, .int .i64 x1))], []⟩) (fun x1 => ⟨[(0, some (true, .rp [.int .i64 m_.Junctions, .sl 7 (m_.Airways.map gAirway.v)]))], []⟩) ⟨by first | omega | assumption | (simp only [List.length_append, List.length_cons, List.length_nil, List.length_replicate, put_len] at * <;> omega), by first | omega | assumption | (simp only [List.length_append, List.length_cons, List.length_nil, List.length_replicate, put_len] at * <;> omega)⟩ (by first | omega | assumption | (simp only [List.length_append, List.length_cons, List.length_nil, List.length_replicate, put_len] at * <;> omega)) (sub_of [] ⟨rfl, rfl, trivial⟩ trivial rfl) ?_ ?_
    · intro x1 i7
      obtain ⟨e8, e9, e10⟩ := i7
      try dsimp only at *
      refine run_seq ?_
      refine run_region (q_move .n (.t rfl) rfl <|
          q_nilc_ro .n (.t rfl) rfl <|
          q_fld_ro .n (.t rfl) fo_34_1 rfl <|
          q_ld1_ro .n (.t rfl) rfl ic_32 rfl <|
          q_len .n (.t rfl) rfl len_map ss_32 rfl <|
          q_int .n (.t rfl) (.c rfl) rfl rfl <|
          q_assign .n (.t rfl) rfl <|
          Lex.nil) ?_
      exact run_ret [] (.cons (.t rfl rfl) .nil) rfl trivial rfl
    · intro rec1 k1 hk3 x1 i4
      obtain ⟨e11, e12⟩ := i4
      try dsimp only at *
      refine run_seq ?_
      refine run_seq ?_
      refine run_region (q_move .n (.t rfl) rfl <|
          q_move .n (.t rfl) rfl <|
          q_nilc_ro .n (.t rfl) rfl <|
          q_fld_ro .n (.t rfl) fo_34_1 rfl <|
          q_ld1_ro .n (.t rfl) rfl ic_32 rfl <|
          q_len .n (.t rfl) rfl len_map ss_32 rfl <|
          q_int .n (.t rfl) (.t rfl) rfl rfl <|
          Lex.nil) ?_
      refine run_cond (.t rfl) rfl (fun h5 => ?_) (fun h5 => ?_)
      · try simp only [Bool.and_eq_true, Bool.or_eq_true, Bool.not_eq_true', Bool.and_eq_false_iff, Bool.or_eq_false_iff, Bool.not_eq_false', decide_eq_true_eq, decide_eq_false_iff_not, beq_iff_eq, bne_iff_ne, beq_eq_false_iff_ne, bne_eq_false_iff_eq, Bool.true_and, ne_eq, Decidable.not_not, Int.not_lt, Int.not_le, Nat.not_lt, Nat.not_le, strB_nil, strB_nil', strB_nnil, strB_nnil'] at h5
        refine run_skip ?_
        refine run_seq ?_
        refine run_block ?_
        refine run_seq ?_
        refine run_region (q_move .n (.t rfl) rfl <|
            q_nilc_ro .n (.t rfl) rfl <|
            q_fld_ro .n (.t rfl) fo_34_1 rfl <|
            q_ld1_ro .n (.t rfl) rfl ic_32 rfl <|
            q_move .n (.t rfl) rfl <|
            q_idx_rm .n (.t rfl) (.t rfl) sl_32 (fun _ => by first | omega | assumption | (simp only [List.length_append, List.length_cons, List.length_nil, List.length_replicate, put_len] at * <;> omega)) rfl <|
            q_assign .n (.t rfl) rfl <|
            Lex.nil) ?_
        refine run_seq ?_
        refine run_draw fmo (q_move .n (.t rfl) rfl <|
            q_call0 (full := false) .n .f en_111 (.cons (.t rfl) .nil) (.cons (.b (.a (.same rfl))) .nil) (fun hg => c_spec_l03Ok (at' m_.Airways x1)) rfl (fun h => Bool.noConfusion h) rfl <|
            q_not .n (.t rfl) rfl <|
            q_move .n (.t rfl) rfl <|
            q_move (.f rfl rfl) (.t rfl) rfl <|
            q_move (.f rfl rfl) (.t rfl) rfl <|
            q_nilc_ro (.f rfl rfl) (.u rfl id) rfl <|
            q_fld_ro (.f rfl rfl) (.u rfl id) fo_128_1 rfl <|
            q_ld1_ro (.f rfl rfl) (.u rfl id) rfl ic_2 rfl <|
            q_call0 (full := false) (.f rfl rfl) .f en_112 (.cons (.u rfl id) (.cons (.u rfl id) .nil)) (.cons (.b (.a (.same rfl))) (.cons (.b (.a (.same rfl))) .nil)) (fun hg => c_spec_l04Junction m_ (at' m_.Airways x1).From) rfl (fun h => Bool.noConfusion h) rfl <|
            q_not (.f rfl rfl) (.u rfl id) rfl <|
            q_or .n (.t rfl) (.u rfl id) rfl <|
            q_move .n (.t rfl) rfl <|
            q_move (.f rfl rfl) (.t rfl) rfl <|
            q_move (.f rfl rfl) (.t rfl) rfl <|
            q_nilc_ro (.f rfl rfl) (.u rfl id) rfl <|
            q_fld_ro (.f rfl rfl) (.u rfl id) fo_128_2 rfl <|
            q_ld1_ro (.f rfl rfl) (.u rfl id) rfl ic_2 rfl <|
            q_call0 (full := false) (.f rfl rfl) .f en_112 (.cons (.u rfl id) (.cons (.u rfl id) .nil)) (.cons (.b (.a (.same rfl))) (.cons (.b (.a (.same rfl))) .nil)) (fun hg => c_spec_l04Junction m_ (at' m_.Airways x1).To) rfl (fun h => Bool.noConfusion h) rfl <|
            q_not (.f rfl rfl) (.u rfl id) rfl <|
            q_or .n (.t rfl) (.u rfl id) rfl <|
            q_move .n (.t rfl) rfl <|
            q_move (.f rfl rfl) (.t rfl) rfl <|
            q_int (.f rfl rfl) (.u rfl id) (.c rfl) rfl rfl <|
            q_move (.f rfl rfl) (.u rfl id) rfl <|
            q_move (.t rfl rfl) (.t rfl) rfl <|
            q_nilc_ro (.t rfl rfl) (.u rfl id) rfl <|
            q_fld_ro (.t rfl rfl) (.u rfl id) fo_34_1 rfl <|
            q_ld1_ro (.t rfl rfl) (.u rfl id) rfl ic_32 rfl <|
            q_move (.t rfl rfl) (.t rfl) rfl <|
            q_sub (.t rfl rfl) (.u rfl id) (.c rfl) (fun hg => by simp only [Bool.and_eq_true, Bool.or_eq_true, Bool.not_eq_true', Bool.and_eq_false_iff, Bool.or_eq_false_iff, Bool.not_eq_false', decide_eq_true_eq, decide_eq_false_iff_not, beq_iff_eq, bne_iff_ne, beq_eq_false_iff_ne, bne_eq_false_iff_eq, Bool.true_and, ne_eq, Decidable.not_not, Int.not_lt, Int.not_le, Nat.not_lt, Nat.not_le, strB_nil, strB_nil', strB_nnil, strB_nnil'] at hg; first | omega | assumption | (simp only [List.length_append, List.length_cons, List.length_nil, List.length_replicate, put_len] at * <;> omega)) rfl <|
            q_idx_rm (.t rfl rfl) (.u rfl id) (.u rfl id) sl_32 (fun hg => by simp only [Bool.and_eq_true, Bool.or_eq_true, Bool.not_eq_true', Bool.and_eq_false_iff, Bool.or_eq_false_iff, Bool.not_eq_false', decide_eq_true_eq, decide_eq_false_iff_not, beq_iff_eq, bne_iff_ne, beq_eq_false_iff_ne, bne_eq_false_iff_eq, Bool.true_and, ne_eq, Decidable.not_not, Int.not_lt, Int.not_le, Nat.not_lt, Nat.not_le, strB_nil, strB_nil', strB_nnil, strB_nnil'] at hg; first | omega | assumption | (simp only [List.length_append, List.length_cons, List.length_nil, List.length_replicate, put_len] at * <;> omega)) rfl <|
            q_fld_ro (.t rfl rfl) (.u rfl id) fo_128_0 rfl <|
            q_ld1_ro (.t rfl rfl) (.u rfl id) rfl ic_9 rfl <|
            q_move (.t rfl rfl) (.t rfl) rfl <|
            q_nilc_ro (.t rfl rfl) (.u rfl id) rfl <|
            q_fld_ro (.t rfl rfl) (.u rfl id) fo_128_0 rfl <|
            q_ld1_ro (.t rfl rfl) (.u rfl id) rfl ic_9 rfl <|
            q_strcmp (.t rfl rfl) (.u rfl id) (.u rfl id) rfl rfl <|
            q_and (.f rfl rfl) (.u rfl id) (.u rfl id) rfl <|
            q_or .n (.t rfl) (.u rfl id) rfl <|
            Lex.nil) (by kernel_rfl) ?_
        refine run_cond (.t rfl) rfl (fun h6 => ?_) (fun h6 => ?_)
        · try simp only [Bool.and_eq_true, Bool.or_eq_true, Bool.not_eq_true', Bool.and_eq_false_iff, Bool.or_eq_false_iff, Bool.not_eq_false', decide_eq_true_eq, decide_eq_false_iff_not, beq_iff_eq, bne_iff_ne, beq_eq_false_iff_ne, bne_eq_false_iff_eq, Bool.true_and, ne_eq, Decidable.not_not, Int.not_lt, Int.not_le, Nat.not_lt, Nat.not_le, strB_nil, strB_nil', strB_nnil, strB_nnil'] at h6
          refine run_seq ?_
          refine run_region (q_assign .n (.c rfl) rfl <|
              Lex.nil) ?_
          exact run_ret [] (.cons (.t rfl rfl) .nil) rfl trivial rfl
        · try simp only [Bool.and_eq_true, Bool.or_eq_true, Bool.not_eq_true', Bool.and_eq_false_iff, Bool.or_eq_false_iff, Bool.not_eq_false', decide_eq_true_eq, decide_eq_false_iff_not, beq_iff_eq, bne_iff_ne, beq_eq_false_iff_ne, bne_eq_false_iff_eq, Bool.true_and, ne_eq, Decidable.not_not, Int.not_lt, Int.not_le, Nat.not_lt, Nat.not_le, strB_nil, strB_nil', strB_nnil, strB_nnil'] at h6
          refine run_skip ?_
          refine run_endB ?_
          refine run_region (q_move .n (.t rfl) rfl <|
              q_add .n (.t rfl) (.c rfl) (fun _ => by first | omega | assumption | (simp only [List.length_append, List.length_cons, List.length_nil, List.length_replicate, put_len] at * <;> omega)) rfl <|
              q_assign .n (.t rfl) rfl <|
              Lex.nil) ?_
          exact run_again (x1 + 1) ⟨by first | omega | assumption | (simp only [List.length_append, List.length_cons, List.length_nil, List.length_replicate, put_len] at * <;> omega), by first | omega | assumption | (simp only [List.length_append, List.length_cons, List.length_nil, List.length_replicate, put_len] at * <;> omega)⟩ (by first | omega | assumption | (simp only [List.length_append, List.length_cons, List.length_nil, List.length_replicate, put_len] at * <;> omega)) (sub_of [] ⟨rfl, rfl, trivial⟩ trivial rfl)
      · try simp only [Bool.and_eq_true, Bool.or_eq_true, Bool.not_eq_true', Bool.and_eq_false_iff, Bool.or_eq_false_iff, Bool.not_eq_false', decide_eq_true_eq, decide_eq_false_iff_not, beq_iff_eq, bne_iff_ne, beq_eq_false_iff_ne, bne_eq_false_iff_eq, Bool.true_and, ne_eq, Decidable.not_not, Int.not_lt, Int.not_le, Nat.not_lt, Nat.not_le, strB_nil, strB_nil', strB_nnil, strB_nnil'] at h5
        refine run_exit rfl ?_
        exact run_cont hk3 x1 ⟨by first | omega | assumption | (simp only [List.length_append, List.length_cons, List.length_nil, List.length_replicate, put_len] at * <;> omega), by first | omega | assumption | (simp only [List.length_append, List.length_cons, List.length_nil, List.length_replicate, put_len] at * <;> omega), by first | omega | assumption | (simp only [List.length_append, List.length_cons, List.length_nil, List.length_replicate, put_len] at * <;> omega)⟩ (sub_of [] ⟨rfl, trivial⟩ trivial rfl)

/-! ### spec_l19One -/
theorem c_spec_l19One (c_ : gCrew) : Con Try.prog 73 [.rp [.str c_.Id, .int .i64 c_.Junction, .int .i64 c_.Speed]] [] (.bool (m_spec_l19One c_)) ([]) := by
  refine con_intro (out := fun r : Bool => ((.bool r : V), ([] : List (Nat × Option O)))) (r := (m_spec_l19One c_)) Try.func73 rfl Try.ntmps73 rfl ?_
  refine run_seq ?_
  refine run_region (q_assign .n (.c rfl) rfl <|
      Lex.nil) ?_
  refine run_seq ?_
  refine run_region (q_move .n (.t rfl) rfl <|
      q_nilc_ro .n (.t rfl) rfl <|
      q_fld_ro .n (.t rfl) fo_37_0 rfl <|
      q_ld1_ro .n (.t rfl) rfl ic_9 rfl <|
      q_call0 (full := false) .n .f en_113 (.cons (.t rfl) .nil) (.cons (.b (.a (.same rfl))) .nil) (fun hg => c_spec_l01Name c_.Id) rfl (fun h => Bool.noConfusion h) rfl <|
      q_move .n (.t rfl) rfl <|
      q_move (.t rfl rfl) (.t rfl) rfl <|
      q_nilc_ro (.t rfl rfl) (.u rfl id) rfl <|
      q_fld_ro (.t rfl rfl) (.u rfl id) fo_37_1 rfl <|
      q_ld1_ro (.t rfl rfl) (.u rfl id) rfl ic_2 rfl <|
      q_call0 (full := false) (.t rfl rfl) .f en_65 (.cons (.u rfl id) (.cons (.c rfl) (.cons (.c rfl) .nil))) (.cons (.b (.a (.same rfl))) (.cons (.b (.a (.same rfl))) (.cons (.b (.a (.same rfl))) .nil))) (fun hg => c_spec_l00In c_.Junction 0 15) rfl (fun h => Bool.noConfusion h) rfl <|
      q_and .n (.t rfl) (.u rfl id) rfl <|
      q_move .n (.t rfl) rfl <|
      q_move (.t rfl rfl) (.t rfl) rfl <|
      q_nilc_ro (.t rfl rfl) (.u rfl id) rfl <|
      q_fld_ro (.t rfl rfl) (.u rfl id) fo_37_2 rfl <|
      q_ld1_ro (.t rfl rfl) (.u rfl id) rfl ic_2 rfl <|
      q_call0 (full := false) (.t rfl rfl) .f en_65 (.cons (.u rfl id) (.cons (.c rfl) (.cons (.c rfl) .nil))) (.cons (.b (.a (.same rfl))) (.cons (.b (.a (.same rfl))) (.cons (.b (.a (.same rfl))) .nil))) (fun hg => c_spec_l00In c_.Speed 10 300) rfl (fun h => Bool.noConfusion h) rfl <|
      q_and .n (.t rfl) (.u rfl id) rfl <|
      q_assign .n (.t rfl) rfl <|
      Lex.nil) ?_
  exact run_ret [] (.cons (.t rfl rfl) .nil) rfl trivial rfl

/-! ### spec_l17Time -/
theorem c_spec_l17Time (t : Int) : Con Try.prog 74 [.int .i64 t] [] (.bool (m_spec_l17Time t)) ([]) := by
  refine con_intro (out := fun r : Bool => ((.bool r : V), ([] : List (Nat × Option O)))) (r := (m_spec_l17Time t)) Try.func74 rfl Try.ntmps74 rfl ?_
  refine run_seq ?_
  refine run_region (q_assign .n (.c rfl) rfl <|
      Lex.nil) ?_
  refine run_seq ?_
  refine run_region (q_move .n (.t rfl) rfl <|
      q_call0 (full := false) .n .f en_65 (.cons (.t rfl) (.cons (.c rfl) (.cons (.c rfl) .nil))) (.cons (.b (.a (.same rfl))) (.cons (.b (.a (.same rfl))) (.cons (.b (.a (.same rfl))) .nil))) (fun hg => c_spec_l00In t 0 36000) rfl (fun h => Bool.noConfusion h) rfl <|
      q_assign .n (.t rfl) rfl <|
      Lex.nil) ?_
  exact run_ret [] (.cons (.t rfl rfl) .nil) rfl trivial rfl

/-! ### spec_l19Arrivals -/
theorem c_spec_l19Arrivals (m_ : gMine) (arrivals : List Int) : Con Try.prog 75 [.rp [.int .i64 m_.Junctions, .sl 7 (m_.Airways.map gAirway.v)], .sl 1 (arrivals.map (V.int .i64))] [] (.bool (m_spec_l19Arrivals m_ arrivals)) ([]) := by
  refine con_intro (out := fun r : Bool => ((.bool r : V), ([] : List (Nat × Option O)))) (r := (m_spec_l19Arrivals m_ arrivals)) Try.func75 rfl Try.ntmps75 rfl ?_
  refine run_factP (t := 0) 1 rfl rfl fun hl => ?_
  have l1 := hl; clear hl; simp only [List.length_map] at l1
  refine run_fact (t := 1) rfl fun hl => ?_
  have l2 := hl; clear hl; simp only [List.length_map] at l2
  refine run_seq ?_
  refine run_region (q_assign .n (.c rfl) rfl <|
      Lex.nil) ?_
  refine run_seq ?_
  refine run_seq ?_
  refine run_region (q_assign .n (.c rfl) rfl <|
      Lex.nil) ?_
  refine run_block ?_
  refine run_LOOP (m_spec_l19Arrivals_b1 m_ arrivals) _ _ _ rfl (fun (x1 : Int) => 0 ≤ x1 ∧ x1 ≤ (arrivals.length : Int)) (fun x1 => 0 ≤ x1 ∧ x1 ≤ (arrivals.length : Int) ∧ (arrivals.length : Int) ≤ x1) (fun x1 => ((arrivals.length : Int) - x1 : Int).toNat) (fun x1 => ⟨[(0, some (true, .rp [.int .i64 m_.Junctions, .sl 7 (m_.Airways.map gAirway.v)])), (1, some (true, .sl 1 (arrivals.map (V.int .i64)))), (5, some (true, .int .i64 x1))], []⟩) (fun x1 => ⟨[(0, some (true, .rp [.int .i64 m_.Junctions, .sl 7 (m_.Airways.map gAirway.v)])), (1, some (true, .sl 1 (arrivals.map (V.int .i64))))], []⟩) ⟨by first | omega | assumption | (simp only [List.length_append, List.length_cons, List.length_nil, List.length_replicate, put_len] at * <;> omega), by first | omega | assumption | (simp only [List.length_append, List.length_cons, List.length_nil, List.length_replicate, put_len] at * <;> omega)⟩ (by first | omega | assumption | (simp only [List.length_append, List.length_cons, List.length_nil, List.length_replicate, put_len] at * <;> omega)) (sub_of [] ⟨rfl, rfl, rfl, trivial⟩ trivial rfl) ?_ ?_
  · intro x1 i7
    obtain ⟨e8, e9, e10⟩ := i7
    try dsimp only at *
    refine run_seq ?_
    refine run_region (q_move .n (.t rfl) rfl <|
        q_len .n (.t rfl) rfl len_map ss_25 rfl <|
        q_move .n (.t rfl) rfl <|
        q_nilc_ro .n (.t rfl) rfl <|
        q_fld_ro .n (.t rfl) fo_34_0 rfl <|
        q_ld1_ro .n (.t rfl) rfl ic_2 rfl <|
        q_int .n (.t rfl) (.t rfl) rfl rfl <|
        q_assign .n (.t rfl) rfl <|
        Lex.nil) ?_
    exact run_ret [] (.cons (.t rfl rfl) .nil) rfl trivial rfl
  · intro rec1 k1 hk3 x1 i4
    obtain ⟨e11, e12⟩ := i4
    try dsimp only at *
    refine run_seq ?_
    refine run_seq ?_
    refine run_region (q_move .n (.t rfl) rfl <|
        q_move .n (.t rfl) rfl <|
        q_len .n (.t rfl) rfl len_map ss_25 rfl <|
        q_int .n (.t rfl) (.t rfl) rfl rfl <|
        Lex.nil) ?_
    refine run_cond (.t rfl) rfl (fun h5 => ?_) (fun h5 => ?_)
    · try simp only [Bool.and_eq_true, Bool.or_eq_true, Bool.not_eq_true', Bool.and_eq_false_iff, Bool.or_eq_false_iff, Bool.not_eq_false', decide_eq_true_eq, decide_eq_false_iff_not, beq_iff_eq, bne_iff_ne, beq_eq_false_iff_ne, bne_eq_false_iff_eq, Bool.true_and, ne_eq, Decidable.not_not, Int.not_lt, Int.not_le, Nat.not_lt, Nat.not_le, strB_nil, strB_nil', strB_nnil, strB_nnil'] at h5
      refine run_skip ?_
      refine run_seq ?_
      refine run_block ?_
      refine run_seq ?_
      refine run_region (q_move .n (.t rfl) rfl <|
          q_move .n (.t rfl) rfl <|
          q_idx_rm .n (.t rfl) (.t rfl) sl_25 (fun _ => by first | omega | assumption | (simp only [List.length_append, List.length_cons, List.length_nil, List.length_replicate, put_len] at * <;> omega)) rfl <|
          q_ld1_ro .n (.t rfl) rfl ic_2 rfl <|
          q_call0 (full := false) .n .f en_65 (.cons (.t rfl) (.cons (.c rfl) (.cons (.c rfl) .nil))) (.cons (.b (.a (.same rfl))) (.cons (.b (.a (.same rfl))) (.cons (.b (.a (.same rfl))) .nil))) (fun hg => c_spec_l00In (at' arrivals x1) (-1) 1000000000000) rfl (fun h => Bool.noConfusion h) rfl <|
          q_not .n (.t rfl) rfl <|
          Lex.nil) ?_
      refine run_cond (.t rfl) rfl (fun h6 => ?_) (fun h6 => ?_)
      · try simp only [Bool.and_eq_true, Bool.or_eq_true, Bool.not_eq_true', Bool.and_eq_false_iff, Bool.or_eq_false_iff, Bool.not_eq_false', decide_eq_true_eq, decide_eq_false_iff_not, beq_iff_eq, bne_iff_ne, beq_eq_false_iff_ne, bne_eq_false_iff_eq, Bool.true_and, ne_eq, Decidable.not_not, Int.not_lt, Int.not_le, Nat.not_lt, Nat.not_le, strB_nil, strB_nil', strB_nnil, strB_nnil'] at h6
        try have hf0h6 := l00In_imp h6
        try have hf1h6 := l00In_imp h6.1
        try have hf2h6 := l00In_imp h6.2
        try have hf3h6 := l00In_imp h6.1.1
        try have hf4h6 := l00In_imp h6.1.2
        try have hf5h6 := l00In_imp h6.2.1
        try have hf6h6 := l00In_imp h6.2.2
        refine run_seq ?_
        refine run_region (q_assign .n (.c rfl) rfl <|
            Lex.nil) ?_
        exact run_ret [] (.cons (.t rfl rfl) .nil) rfl trivial rfl
      · try simp only [Bool.and_eq_true, Bool.or_eq_true, Bool.not_eq_true', Bool.and_eq_false_iff, Bool.or_eq_false_iff, Bool.not_eq_false', decide_eq_true_eq, decide_eq_false_iff_not, beq_iff_eq, bne_iff_ne, beq_eq_false_iff_ne, bne_eq_false_iff_eq, Bool.true_and, ne_eq, Decidable.not_not, Int.not_lt, Int.not_le, Nat.not_lt, Nat.not_le, strB_nil, strB_nil', strB_nnil, strB_nnil'] at h6
        try have hf0h6 := l00In_imp h6
        try have hf1h6 := l00In_imp h6.1
        try have hf2h6 := l00In_imp h6.2
        try have hf3h6 := l00In_imp h6.1.1
        try have hf4h6 := l00In_imp h6.1.2
        try have hf5h6 := l00In_imp h6.2.1
        try have hf6h6 := l00In_imp h6.2.2
        refine run_skip ?_
        refine run_endB ?_
        refine run_region (q_move .n (.t rfl) rfl <|
            q_add .n (.t rfl) (.c rfl) (fun _ => by first | omega | assumption | (simp only [List.length_append, List.length_cons, List.length_nil, List.length_replicate, put_len] at * <;> omega)) rfl <|
            q_assign .n (.t rfl) rfl <|
            Lex.nil) ?_
        exact run_again (x1 + 1) ⟨by first | omega | assumption | (simp only [List.length_append, List.length_cons, List.length_nil, List.length_replicate, put_len] at * <;> omega), by first | omega | assumption | (simp only [List.length_append, List.length_cons, List.length_nil, List.length_replicate, put_len] at * <;> omega)⟩ (by first | omega | assumption | (simp only [List.length_append, List.length_cons, List.length_nil, List.length_replicate, put_len] at * <;> omega)) (sub_of [] ⟨rfl, rfl, rfl, trivial⟩ trivial rfl)
    · try simp only [Bool.and_eq_true, Bool.or_eq_true, Bool.not_eq_true', Bool.and_eq_false_iff, Bool.or_eq_false_iff, Bool.not_eq_false', decide_eq_true_eq, decide_eq_false_iff_not, beq_iff_eq, bne_iff_ne, beq_eq_false_iff_ne, bne_eq_false_iff_eq, Bool.true_and, ne_eq, Decidable.not_not, Int.not_lt, Int.not_le, Nat.not_lt, Nat.not_le, strB_nil, strB_nil', strB_nnil, strB_nnil'] at h5
      refine run_exit rfl ?_
      exact run_cont hk3 x1 ⟨by first | omega | assumption | (simp only [List.length_append, List.length_cons, List.length_nil, List.length_replicate, put_len] at * <;> omega), by first | omega | assumption | (simp only [List.length_append, List.length_cons, List.length_nil, List.length_replicate, put_len] at * <;> omega), by first | omega | assumption | (simp only [List.length_append, List.length_cons, List.length_nil, List.length_replicate, put_len] at * <;> omega)⟩ (sub_of [] ⟨rfl, rfl, trivial⟩ trivial rfl)

/-! ### spec_l19Ask -/
theorem c_spec_l19Ask (m_ : gMine) (arrivals : List Int) (blocked : Int) (c_ : gCrew) (start : Int) : Con Try.prog 34 [.rp [.int .i64 m_.Junctions, .sl 7 (m_.Airways.map gAirway.v)], .sl 1 (arrivals.map (V.int .i64)), .int .i64 blocked, .rp [.str c_.Id, .int .i64 c_.Junction, .int .i64 c_.Speed], .int .i64 start] [] (.int .i64 (m_spec_l19Ask m_ arrivals blocked c_ start)) ([]) := by
  refine con_intro (out := fun r : Int => ((.int .i64 r : V), ([] : List (Nat × Option O)))) (r := (m_spec_l19Ask m_ arrivals blocked c_ start)) Try.func34 rfl Try.ntmps34 rfl ?_
  refine run_factP (t := 0) 1 rfl rfl fun hl => ?_
  have l1 := hl; clear hl; simp only [List.length_map] at l1
  refine run_fact (t := 1) rfl fun hl => ?_
  have l2 := hl; clear hl; simp only [List.length_map] at l2
  refine run_seq ?_
  refine run_region (q_assign .n (.c rfl) rfl <|
      Lex.nil) ?_
  refine run_seq ?_
  refine run_seq ?_
  refine run_draw fmo (q_move .n (.t rfl) rfl <|
      q_call0 (full := false) .n .f en_72 (.cons (.t rfl) .nil) (.cons (.b (.a (.same rfl))) .nil) (fun hg => c_spec_l04Ok m_) rfl (fun h => Bool.noConfusion h) rfl <|
      q_not .n (.t rfl) rfl <|
      q_move .n (.t rfl) rfl <|
      q_move (.f rfl rfl) (.t rfl) rfl <|
      q_call0 (full := false) (.f rfl rfl) .f en_73 (.cons (.u rfl id) .nil) (.cons (.b (.a (.same rfl))) .nil) (fun hg => c_spec_l19One c_) rfl (fun h => Bool.noConfusion h) rfl <|
      q_not (.f rfl rfl) (.u rfl id) rfl <|
      q_or .n (.t rfl) (.u rfl id) rfl <|
      q_move .n (.t rfl) rfl <|
      q_move (.f rfl rfl) (.t rfl) rfl <|
      q_nilc_ro (.f rfl rfl) (.u rfl id) rfl <|
      q_fld_ro (.f rfl rfl) (.u rfl id) fo_37_1 rfl <|
      q_ld1_ro (.f rfl rfl) (.u rfl id) rfl ic_2 rfl <|
      q_move (.f rfl rfl) (.t rfl) rfl <|
      q_nilc_ro (.f rfl rfl) (.u rfl id) rfl <|
      q_fld_ro (.f rfl rfl) (.u rfl id) fo_34_0 rfl <|
      q_ld1_ro (.f rfl rfl) (.u rfl id) rfl ic_2 rfl <|
      q_int (.f rfl rfl) (.u rfl id) (.u rfl id) rfl rfl <|
      q_or .n (.t rfl) (.u rfl id) rfl <|
      Lex.nil) (by kernel_rfl) ?_
  refine run_cond (.t rfl) rfl (fun h3 => ?_) (fun h3 => ?_)
  · try simp only [Bool.and_eq_true, Bool.or_eq_true, Bool.not_eq_true', Bool.and_eq_false_iff, Bool.or_eq_false_iff, Bool.not_eq_false', decide_eq_true_eq, decide_eq_false_iff_not, beq_iff_eq, bne_iff_ne, beq_eq_false_iff_ne, bne_eq_false_iff_eq, Bool.true_and, ne_eq, Decidable.not_not, Int.not_lt, Int.not_le, Nat.not_lt, Nat.not_le, strB_nil, strB_nil', strB_nnil, strB_nnil'] at h3
    try have hf0h3 := l04Ok_imp h3
    try have hf1h3 := l04Ok_imp h3.1
    try have hf2h3 := l04Ok_imp h3.2
    try have hf3h3 := l04Ok_imp h3.1.1
    try have hf4h3 := l04Ok_imp h3.1.2
    try have hf5h3 := l04Ok_imp h3.2.1
    try have hf6h3 := l04Ok_imp h3.2.2
    refine run_seq ?_
    refine run_region (q_assign .n (.c rfl) rfl <|
        Lex.nil) ?_
    exact run_ret [] (.cons (.t rfl rfl) .nil) rfl trivial rfl
  · try simp only [Bool.and_eq_true, Bool.or_eq_true, Bool.not_eq_true', Bool.and_eq_false_iff, Bool.or_eq_false_iff, Bool.not_eq_false', decide_eq_true_eq, decide_eq_false_iff_not, beq_iff_eq, bne_iff_ne, beq_eq_false_iff_ne, bne_eq_false_iff_eq, Bool.true_and, ne_eq, Decidable.not_not, Int.not_lt, Int.not_le, Nat.not_lt, Nat.not_le, strB_nil, strB_nil', strB_nnil, strB_nnil'] at h3
    try have hf0h3 := l04Ok_imp h3
    try have hf1h3 := l04Ok_imp h3.1
    try have hf2h3 := l04Ok_imp h3.2
    try have hf3h3 := l04Ok_imp h3.1.1
    try have hf4h3 := l04Ok_imp h3.1.2
    try have hf5h3 := l04Ok_imp h3.2.1
    try have hf6h3 := l04Ok_imp h3.2.2
    refine run_skip ?_
    refine run_seq ?_
    refine run_seq ?_
    refine run_region (q_move .n (.t rfl) rfl <|
        q_move .n (.t rfl) rfl <|
        q_nilc_ro .n (.t rfl) rfl <|
        q_fld_ro .n (.t rfl) fo_34_1 rfl <|
        q_ld1_ro .n (.t rfl) rfl ic_32 rfl <|
        q_len .n (.t rfl) rfl len_map ss_32 rfl <|
        q_sub .n (.t rfl) (.c rfl) (fun _ => by first | omega | assumption | (simp only [List.length_append, List.length_cons, List.length_nil, List.length_replicate, put_len] at * <;> omega)) rfl <|
        q_call0 (full := false) .n .f en_65 (.cons (.t rfl) (.cons (.c rfl) (.cons (.t rfl) .nil))) (.cons (.b (.a (.same rfl))) (.cons (.b (.a (.same rfl))) (.cons (.b (.a (.same rfl))) .nil))) (fun hg => c_spec_l00In blocked (-1) ((m_.Airways.length : Int) - 1)) rfl (fun h => Bool.noConfusion h) rfl <|
        q_not .n (.t rfl) rfl <|
        q_move .n (.t rfl) rfl <|
        q_move (.f rfl rfl) (.t rfl) rfl <|
        q_call0 (full := false) (.f rfl rfl) .f en_74 (.cons (.u rfl id) .nil) (.cons (.b (.a (.same rfl))) .nil) (fun hg => c_spec_l17Time start) rfl (fun h => Bool.noConfusion h) rfl <|
        q_not (.f rfl rfl) (.u rfl id) rfl <|
        q_or .n (.t rfl) (.u rfl id) rfl <|
        Lex.nil) ?_
    refine run_cond (.t rfl) rfl (fun h4 => ?_) (fun h4 => ?_)
    · try simp only [Bool.and_eq_true, Bool.or_eq_true, Bool.not_eq_true', Bool.and_eq_false_iff, Bool.or_eq_false_iff, Bool.not_eq_false', decide_eq_true_eq, decide_eq_false_iff_not, beq_iff_eq, bne_iff_ne, beq_eq_false_iff_ne, bne_eq_false_iff_eq, Bool.true_and, ne_eq, Decidable.not_not, Int.not_lt, Int.not_le, Nat.not_lt, Nat.not_le, strB_nil, strB_nil', strB_nnil, strB_nnil'] at h4
      try have hf0h4 := l00In_imp h4
      try have hf1h4 := l00In_imp h4.1
      try have hf2h4 := l00In_imp h4.2
      try have hf3h4 := l00In_imp h4.1.1
      try have hf4h4 := l00In_imp h4.1.2
      try have hf5h4 := l00In_imp h4.2.1
      try have hf6h4 := l00In_imp h4.2.2
      try have hf7h4 := l17Time_imp h4
      try have hf8h4 := l17Time_imp h4.1
      try have hf9h4 := l17Time_imp h4.2
      try have hf10h4 := l17Time_imp h4.1.1
      try have hf11h4 := l17Time_imp h4.1.2
      try have hf12h4 := l17Time_imp h4.2.1
      try have hf13h4 := l17Time_imp h4.2.2
      refine run_seq ?_
      refine run_region (q_assign .n (.c rfl) rfl <|
          Lex.nil) ?_
      exact run_ret [] (.cons (.t rfl rfl) .nil) rfl trivial rfl
    · try simp only [Bool.and_eq_true, Bool.or_eq_true, Bool.not_eq_true', Bool.and_eq_false_iff, Bool.or_eq_false_iff, Bool.not_eq_false', decide_eq_true_eq, decide_eq_false_iff_not, beq_iff_eq, bne_iff_ne, beq_eq_false_iff_ne, bne_eq_false_iff_eq, Bool.true_and, ne_eq, Decidable.not_not, Int.not_lt, Int.not_le, Nat.not_lt, Nat.not_le, strB_nil, strB_nil', strB_nnil, strB_nnil'] at h4
      try have hf0h4 := l00In_imp h4
      try have hf1h4 := l00In_imp h4.1
      try have hf2h4 := l00In_imp h4.2
      try have hf3h4 := l00In_imp h4.1.1
      try have hf4h4 := l00In_imp h4.1.2
      try have hf5h4 := l00In_imp h4.2.1
      try have hf6h4 := l00In_imp h4.2.2
      try have hf7h4 := l17Time_imp h4
      try have hf8h4 := l17Time_imp h4.1
      try have hf9h4 := l17Time_imp h4.2
      try have hf10h4 := l17Time_imp h4.1.1
      try have hf11h4 := l17Time_imp h4.1.2
      try have hf12h4 := l17Time_imp h4.2.1
      try have hf13h4 := l17Time_imp h4.2.2
      refine run_skip ?_
      refine run_seq ?_
      refine run_seq ?_
      refine run_region (q_move .n (.t rfl) rfl <|
          q_move .n (.t rfl) rfl <|
          q_call0 (full := false) .n .f en_75 (.cons (.t rfl) (.cons (.t rfl) .nil)) (.cons (.b (.a (.same rfl))) (.cons (.b (.a (.same rfl))) .nil)) (fun hg => c_spec_l19Arrivals m_ arrivals) rfl (fun h => Bool.noConfusion h) rfl <|
          q_not .n (.t rfl) rfl <|
          Lex.nil) ?_
      refine run_cond (.t rfl) rfl (fun h5 => ?_) (fun h5 => ?_)
      · try simp only [Bool.and_eq_true, Bool.or_eq_true, Bool.not_eq_true', Bool.and_eq_false_iff, Bool.or_eq_false_iff, Bool.not_eq_false', decide_eq_true_eq, decide_eq_false_iff_not, beq_iff_eq, bne_iff_ne, beq_eq_false_iff_ne, bne_eq_false_iff_eq, Bool.true_and, ne_eq, Decidable.not_not, Int.not_lt, Int.not_le, Nat.not_lt, Nat.not_le, strB_nil, strB_nil', strB_nnil, strB_nnil'] at h5
        try have hf0h5 := l19Arr_imp h5
        try have hf1h5 := l19Arr_imp h5.1
        try have hf2h5 := l19Arr_imp h5.2
        try have hf3h5 := l19Arr_imp h5.1.1
        try have hf4h5 := l19Arr_imp h5.1.2
        try have hf5h5 := l19Arr_imp h5.2.1
        try have hf6h5 := l19Arr_imp h5.2.2
        refine run_seq ?_
        refine run_region (q_assign .n (.c rfl) rfl <|
            Lex.nil) ?_
        exact run_ret [] (.cons (.t rfl rfl) .nil) rfl trivial rfl
      · try simp only [Bool.and_eq_true, Bool.or_eq_true, Bool.not_eq_true', Bool.and_eq_false_iff, Bool.or_eq_false_iff, Bool.not_eq_false', decide_eq_true_eq, decide_eq_false_iff_not, beq_iff_eq, bne_iff_ne, beq_eq_false_iff_ne, bne_eq_false_iff_eq, Bool.true_and, ne_eq, Decidable.not_not, Int.not_lt, Int.not_le, Nat.not_lt, Nat.not_le, strB_nil, strB_nil', strB_nnil, strB_nnil'] at h5
        try have hf0h5 := l19Arr_imp h5
        try have hf1h5 := l19Arr_imp h5.1
        try have hf2h5 := l19Arr_imp h5.2
        try have hf3h5 := l19Arr_imp h5.1.1
        try have hf4h5 := l19Arr_imp h5.1.2
        try have hf5h5 := l19Arr_imp h5.2.1
        try have hf6h5 := l19Arr_imp h5.2.2
        refine run_skip ?_
        refine run_seq ?_
        refine run_region (q_assign .n (.c rfl) rfl <|
            Lex.nil) ?_
        exact run_ret [] (.cons (.t rfl rfl) .nil) rfl trivial rfl

/-! ### spec_l00Rises -/
theorem c_spec_l00Rises (list : List Int) (low : Int) (high : Int) : Con Try.prog 35 [.sl 1 (list.map (V.int .i64)), .int .i64 low, .int .i64 high] [] (.bool (m_spec_l00Rises list low high)) ([]) := by
  refine con_intro (out := fun r : Bool => ((.bool r : V), ([] : List (Nat × Option O)))) (r := (m_spec_l00Rises list low high)) Try.func35 rfl Try.ntmps35 rfl ?_
  refine run_fact (t := 0) rfl fun hl => ?_
  have l1 := hl; clear hl; simp only [List.length_map] at l1
  refine run_seq ?_
  refine run_region (q_assign .n (.c rfl) rfl <|
      Lex.nil) ?_
  refine run_seq ?_
  refine run_seq ?_
  refine run_region (q_assign .n (.c rfl) rfl <|
      Lex.nil) ?_
  refine run_block ?_
  refine run_LOOP (m_spec_l00Rises_b1 list low high) _ _ _ rfl (fun (x1 : Int) => 0 ≤ x1 ∧ x1 ≤ (list.length : Int)) (fun x1 => 0 ≤ x1 ∧ x1 ≤ (list.length : Int) ∧ (list.length : Int) ≤ x1) (fun x1 => ((list.length : Int) - x1 : Int).toNat) (fun x1 => ⟨[(0, some (true, .sl 1 (list.map (V.int .i64)))), (1, some (true, .int .i64 low)), (2, some (true, .int .i64 high)), (7, some (true, .int .i64 x1))], []⟩) (fun x1 => ⟨[], []⟩) ⟨by first | omega | assumption | (simp only [List.length_append, List.length_cons, List.length_nil, List.length_replicate, put_len] at * <;> omega), by first | omega | assumption | (simp only [List.length_append, List.length_cons, List.length_nil, List.length_replicate, put_len] at * <;> omega)⟩ (by first | omega | assumption | (simp only [List.length_append, List.length_cons, List.length_nil, List.length_replicate, put_len] at * <;> omega)) (sub_of [] ⟨rfl, rfl, rfl, rfl, trivial⟩ trivial rfl) ?_ ?_
  · intro x1 i6
    obtain ⟨e7, e8, e9⟩ := i6
    try dsimp only at *
    refine run_seq ?_
    refine run_region (q_assign .n (.c rfl) rfl <|
        Lex.nil) ?_
    exact run_ret [] (.cons (.t rfl rfl) .nil) rfl trivial rfl
  · intro rec1 k1 hk2 x1 i3
    obtain ⟨e10, e11⟩ := i3
    try dsimp only at *
    refine run_seq ?_
    refine run_seq ?_
    refine run_region (q_move .n (.t rfl) rfl <|
        q_move .n (.t rfl) rfl <|
        q_len .n (.t rfl) rfl len_map ss_25 rfl <|
        q_int .n (.t rfl) (.t rfl) rfl rfl <|
        Lex.nil) ?_
    refine run_cond (.t rfl) rfl (fun h4 => ?_) (fun h4 => ?_)
    · try simp only [Bool.and_eq_true, Bool.or_eq_true, Bool.not_eq_true', Bool.and_eq_false_iff, Bool.or_eq_false_iff, Bool.not_eq_false', decide_eq_true_eq, decide_eq_false_iff_not, beq_iff_eq, bne_iff_ne, beq_eq_false_iff_ne, bne_eq_false_iff_eq, Bool.true_and, ne_eq, Decidable.not_not, Int.not_lt, Int.not_le, Nat.not_lt, Nat.not_le, strB_nil, strB_nil', strB_nnil, strB_nnil'] at h4
      refine run_skip ?_
      refine run_seq ?_
      refine run_block ?_
      refine run_seq ?_
      refine run_draw fmo (q_move .n (.t rfl) rfl <|
          q_move .n (.t rfl) rfl <|
          q_idx_rm .n (.t rfl) (.t rfl) sl_25 (fun _ => by first | omega | assumption | (simp only [List.length_append, List.length_cons, List.length_nil, List.length_replicate, put_len] at * <;> omega)) rfl <|
          q_ld1_ro .n (.t rfl) rfl ic_2 rfl <|
          q_move .n (.t rfl) rfl <|
          q_move .n (.t rfl) rfl <|
          q_call0 (full := false) .n .f en_65 (.cons (.t rfl) (.cons (.t rfl) (.cons (.t rfl) .nil))) (.cons (.b (.a (.same rfl))) (.cons (.b (.a (.same rfl))) (.cons (.b (.a (.same rfl))) .nil))) (fun hg => c_spec_l00In (at' list x1) low high) rfl (fun h => Bool.noConfusion h) rfl <|
          q_not .n (.t rfl) rfl <|
          q_move .n (.t rfl) rfl <|
          q_move (.f rfl rfl) (.t rfl) rfl <|
          q_int (.f rfl rfl) (.u rfl id) (.c rfl) rfl rfl <|
          q_move (.f rfl rfl) (.u rfl id) rfl <|
          q_move (.t rfl rfl) (.t rfl) rfl <|
          q_move (.t rfl rfl) (.t rfl) rfl <|
          q_sub (.t rfl rfl) (.u rfl id) (.c rfl) (fun hg => by simp only [Bool.and_eq_true, Bool.or_eq_true, Bool.not_eq_true', Bool.and_eq_false_iff, Bool.or_eq_false_iff, Bool.not_eq_false', decide_eq_true_eq, decide_eq_false_iff_not, beq_iff_eq, bne_iff_ne, beq_eq_false_iff_ne, bne_eq_false_iff_eq, Bool.true_and, ne_eq, Decidable.not_not, Int.not_lt, Int.not_le, Nat.not_lt, Nat.not_le, strB_nil, strB_nil', strB_nnil, strB_nnil'] at hg; first | omega | assumption | (simp only [List.length_append, List.length_cons, List.length_nil, List.length_replicate, put_len] at * <;> omega)) rfl <|
          q_idx_rm (.t rfl rfl) (.u rfl id) (.u rfl id) sl_25 (fun hg => by simp only [Bool.and_eq_true, Bool.or_eq_true, Bool.not_eq_true', Bool.and_eq_false_iff, Bool.or_eq_false_iff, Bool.not_eq_false', decide_eq_true_eq, decide_eq_false_iff_not, beq_iff_eq, bne_iff_ne, beq_eq_false_iff_ne, bne_eq_false_iff_eq, Bool.true_and, ne_eq, Decidable.not_not, Int.not_lt, Int.not_le, Nat.not_lt, Nat.not_le, strB_nil, strB_nil', strB_nnil, strB_nnil'] at hg; first | omega | assumption | (simp only [List.length_append, List.length_cons, List.length_nil, List.length_replicate, put_len] at * <;> omega)) rfl <|
          q_ld1_ro (.t rfl rfl) (.u rfl id) rfl ic_2 rfl <|
          q_move (.t rfl rfl) (.t rfl) rfl <|
          q_move (.t rfl rfl) (.t rfl) rfl <|
          q_idx_rm (.t rfl rfl) (.u rfl id) (.u rfl id) sl_25 (fun hg => by simp only [Bool.and_eq_true, Bool.or_eq_true, Bool.not_eq_true', Bool.and_eq_false_iff, Bool.or_eq_false_iff, Bool.not_eq_false', decide_eq_true_eq, decide_eq_false_iff_not, beq_iff_eq, bne_iff_ne, beq_eq_false_iff_ne, bne_eq_false_iff_eq, Bool.true_and, ne_eq, Decidable.not_not, Int.not_lt, Int.not_le, Nat.not_lt, Nat.not_le, strB_nil, strB_nil', strB_nnil, strB_nnil'] at hg; first | omega | assumption | (simp only [List.length_append, List.length_cons, List.length_nil, List.length_replicate, put_len] at * <;> omega)) rfl <|
          q_ld1_ro (.t rfl rfl) (.u rfl id) rfl ic_2 rfl <|
          q_int (.t rfl rfl) (.u rfl id) (.u rfl id) rfl rfl <|
          q_and (.f rfl rfl) (.u rfl id) (.u rfl id) rfl <|
          q_or .n (.t rfl) (.u rfl id) rfl <|
          Lex.nil) (by kernel_rfl) ?_
      refine run_cond (.t rfl) rfl (fun h5 => ?_) (fun h5 => ?_)
      · try simp only [Bool.and_eq_true, Bool.or_eq_true, Bool.not_eq_true', Bool.and_eq_false_iff, Bool.or_eq_false_iff, Bool.not_eq_false', decide_eq_true_eq, decide_eq_false_iff_not, beq_iff_eq, bne_iff_ne, beq_eq_false_iff_ne, bne_eq_false_iff_eq, Bool.true_and, ne_eq, Decidable.not_not, Int.not_lt, Int.not_le, Nat.not_lt, Nat.not_le, strB_nil, strB_nil', strB_nnil, strB_nnil'] at h5
        try have hf0h5 := l00In_imp h5
        try have hf1h5 := l00In_imp h5.1
        try have hf2h5 := l00In_imp h5.2
        try have hf3h5 := l00In_imp h5.1.1
        try have hf4h5 := l00In_imp h5.1.2
        try have hf5h5 := l00In_imp h5.2.1
        try have hf6h5 := l00In_imp h5.2.2
        refine run_seq ?_
        refine run_region (q_assign .n (.c rfl) rfl <|
            Lex.nil) ?_
        exact run_ret [] (.cons (.t rfl rfl) .nil) rfl trivial rfl
      · try simp only [Bool.and_eq_true, Bool.or_eq_true, Bool.not_eq_true', Bool.and_eq_false_iff, Bool.or_eq_false_iff, Bool.not_eq_false', decide_eq_true_eq, decide_eq_false_iff_not, beq_iff_eq, bne_iff_ne, beq_eq_false_iff_ne, bne_eq_false_iff_eq, Bool.true_and, ne_eq, Decidable.not_not, Int.not_lt, Int.not_le, Nat.not_lt, Nat.not_le, strB_nil, strB_nil', strB_nnil, strB_nnil'] at h5
        try have hf0h5 := l00In_imp h5
        try have hf1h5 := l00In_imp h5.1
        try have hf2h5 := l00In_imp h5.2
        try have hf3h5 := l00In_imp h5.1.1
        try have hf4h5 := l00In_imp h5.1.2
        try have hf5h5 := l00In_imp h5.2.1
        try have hf6h5 := l00In_imp h5.2.2
        refine run_skip ?_
        refine run_endB ?_
        refine run_region (q_move .n (.t rfl) rfl <|
            q_add .n (.t rfl) (.c rfl) (fun _ => by first | omega | assumption | (simp only [List.length_append, List.length_cons, List.length_nil, List.length_replicate, put_len] at * <;> omega)) rfl <|
            q_assign .n (.t rfl) rfl <|
            Lex.nil) ?_
        exact run_again (x1 + 1) ⟨by first | omega | assumption | (simp only [List.length_append, List.length_cons, List.length_nil, List.length_replicate, put_len] at * <;> omega), by first | omega | assumption | (simp only [List.length_append, List.length_cons, List.length_nil, List.length_replicate, put_len] at * <;> omega)⟩ (by first | omega | assumption | (simp only [List.length_append, List.length_cons, List.length_nil, List.length_replicate, put_len] at * <;> omega)) (sub_of [] ⟨rfl, rfl, rfl, rfl, trivial⟩ trivial rfl)
    · try simp only [Bool.and_eq_true, Bool.or_eq_true, Bool.not_eq_true', Bool.and_eq_false_iff, Bool.or_eq_false_iff, Bool.not_eq_false', decide_eq_true_eq, decide_eq_false_iff_not, beq_iff_eq, bne_iff_ne, beq_eq_false_iff_ne, bne_eq_false_iff_eq, Bool.true_and, ne_eq, Decidable.not_not, Int.not_lt, Int.not_le, Nat.not_lt, Nat.not_le, strB_nil, strB_nil', strB_nnil, strB_nnil'] at h4
      refine run_exit rfl ?_
      exact run_cont hk2 x1 ⟨by first | omega | assumption | (simp only [List.length_append, List.length_cons, List.length_nil, List.length_replicate, put_len] at * <;> omega), by first | omega | assumption | (simp only [List.length_append, List.length_cons, List.length_nil, List.length_replicate, put_len] at * <;> omega), by first | omega | assumption | (simp only [List.length_append, List.length_cons, List.length_nil, List.length_replicate, put_len] at * <;> omega)⟩ (sub_of [] trivial trivial rfl)

/-! ### spec_l19Exit -/
theorem c_spec_l19Exit (times : List Int) (exits : List Int) (hp1 : ∀ y ∈ exits, 0 ≤ y ∧ y < times.length) : Con Try.prog 36 [.sl 1 (times.map (V.int .i64)), .sl 1 (exits.map (V.int .i64))] [] (.int .i64 (m_spec_l19Exit times exits)) ([]) := by
  refine con_intro (out := fun r : Int => ((.int .i64 r : V), ([] : List (Nat × Option O)))) (r := (m_spec_l19Exit times exits)) Try.func36 rfl Try.ntmps36 rfl ?_
  refine run_fact (t := 0) rfl fun hl => ?_
  have l1 := hl; clear hl; simp only [List.length_map] at l1
  refine run_fact (t := 1) rfl fun hl => ?_
  have l2 := hl; clear hl; simp only [List.length_map] at l2
  refine run_seq ?_
  refine run_region (q_assign .n (.c rfl) rfl <|
      Lex.nil) ?_
  refine run_seq ?_
  refine run_region (q_assign .n (.c rfl) rfl <|
      Lex.nil) ?_
  refine run_seq ?_
  refine run_seq ?_
  refine run_region (q_assign .n (.c rfl) rfl <|
      Lex.nil) ?_
  refine run_block ?_
  refine run_LOOP (m_spec_l19Exit_b1 times exits) _ _ _ rfl (fun (x1 : Int × Int) => 0 ≤ x1.2 ∧ x1.2 ≤ (exits.length : Int) ∧ (x1.1 = -1 ∨ (0 ≤ x1.1 ∧ x1.1 < times.length))) (fun x1 => 0 ≤ x1.2 ∧ x1.2 ≤ (exits.length : Int) ∧ (x1.1 = -1 ∨ (0 ≤ x1.1 ∧ x1.1 < times.length)) ∧ (exits.length : Int) ≤ x1.2) (fun x1 => ((exits.length : Int) - x1.2 : Int).toNat) (fun x1 => ⟨[(0, some (true, .sl 1 (times.map (V.int .i64)))), (1, some (true, .sl 1 (exits.map (V.int .i64)))), (5, some (true, .int .i64 x1.1)), (6, some (true, .int .i64 x1.2))], []⟩) (fun x1 => ⟨[(5, some (true, .int .i64 x1.1))], []⟩) ⟨by first | omega | assumption | (simp only [List.length_append, List.length_cons, List.length_nil, List.length_replicate, put_len] at * <;> omega) | ((have hb := at_all (i := x1.2) hp1 (by omega); omega)), by first | omega | assumption | (simp only [List.length_append, List.length_cons, List.length_nil, List.length_replicate, put_len] at * <;> omega) | ((have hb := at_all (i := x1.2) hp1 (by omega); omega)), by first | omega | assumption | (simp only [List.length_append, List.length_cons, List.length_nil, List.length_replicate, put_len] at * <;> omega) | ((have hb := at_all (i := x1.2) hp1 (by omega); omega))⟩ (by first | omega | assumption | (simp only [List.length_append, List.length_cons, List.length_nil, List.length_replicate, put_len] at * <;> omega) | ((have hb := at_all (i := x1.2) hp1 (by omega); omega))) (sub_of [] ⟨rfl, rfl, rfl, rfl, trivial⟩ trivial rfl) ?_ ?_
  · intro x1 i7
    obtain ⟨e8, e9, e10, e11⟩ := i7
    try dsimp only at *
    refine run_seq ?_
    refine run_region (q_move .n (.t rfl) rfl <|
        q_assign .n (.t rfl) rfl <|
        Lex.nil) ?_
    exact run_ret [] (.cons (.t rfl rfl) .nil) rfl trivial rfl
  · intro rec1 k1 hk3 x1 i4
    obtain ⟨e12, e13, e14⟩ := i4
    try dsimp only at *
    refine run_seq ?_
    refine run_seq ?_
    refine run_region (q_move .n (.t rfl) rfl <|
        q_move .n (.t rfl) rfl <|
        q_len .n (.t rfl) rfl len_map ss_25 rfl <|
        q_int .n (.t rfl) (.t rfl) rfl rfl <|
        Lex.nil) ?_
    refine run_cond (.t rfl) rfl (fun h5 => ?_) (fun h5 => ?_)
    · try simp only [Bool.and_eq_true, Bool.or_eq_true, Bool.not_eq_true', Bool.and_eq_false_iff, Bool.or_eq_false_iff, Bool.not_eq_false', decide_eq_true_eq, decide_eq_false_iff_not, beq_iff_eq, bne_iff_ne, beq_eq_false_iff_ne, bne_eq_false_iff_eq, Bool.true_and, ne_eq, Decidable.not_not, Int.not_lt, Int.not_le, Nat.not_lt, Nat.not_le, strB_nil, strB_nil', strB_nnil, strB_nnil'] at h5
      refine run_skip ?_
      refine run_seq ?_
      refine run_block ?_
      refine run_seq ?_
      refine run_region (q_move .n (.t rfl) rfl <|
          q_move .n (.t rfl) rfl <|
          q_move .n (.t rfl) rfl <|
          q_idx_rm .n (.t rfl) (.t rfl) sl_25 (fun _ => by first | omega | assumption | (simp only [List.length_append, List.length_cons, List.length_nil, List.length_replicate, put_len] at * <;> omega) | ((have hb := at_all (i := x1.2) hp1 (by omega); omega))) rfl <|
          q_ld1_ro .n (.t rfl) rfl ic_2 rfl <|
          q_idx_rm .n (.t rfl) (.t rfl) sl_25 (fun _ => by first | omega | assumption | (simp only [List.length_append, List.length_cons, List.length_nil, List.length_replicate, put_len] at * <;> omega) | ((have hb := at_all (i := x1.2) hp1 (by omega); omega))) rfl <|
          q_ld1_ro .n (.t rfl) rfl ic_2 rfl <|
          q_assign .n (.t rfl) rfl <|
          Lex.nil) ?_
      refine run_seq ?_
      refine run_region (q_move .n (.t rfl) rfl <|
          q_int .n (.t rfl) (.c rfl) rfl rfl <|
          q_move .n (.t rfl) rfl <|
          q_move (.t rfl rfl) (.t rfl) rfl <|
          q_int (.t rfl rfl) (.u rfl id) (.c rfl) rfl rfl <|
          q_move (.t rfl rfl) (.u rfl id) rfl <|
          q_move (.f rfl rfl) (.t rfl) rfl <|
          q_move (.f rfl rfl) (.t rfl) rfl <|
          q_move (.f rfl rfl) (.t rfl) rfl <|
          q_idx_rm (.f rfl rfl) (.u rfl id) (.u rfl id) sl_25 (fun hg => by simp only [Bool.and_eq_true, Bool.or_eq_true, Bool.not_eq_true', Bool.and_eq_false_iff, Bool.or_eq_false_iff, Bool.not_eq_false', decide_eq_true_eq, decide_eq_false_iff_not, beq_iff_eq, bne_iff_ne, beq_eq_false_iff_ne, bne_eq_false_iff_eq, Bool.true_and, ne_eq, Decidable.not_not, Int.not_lt, Int.not_le, Nat.not_lt, Nat.not_le, strB_nil, strB_nil', strB_nnil, strB_nnil'] at hg; first | omega | assumption | (simp only [List.length_append, List.length_cons, List.length_nil, List.length_replicate, put_len] at * <;> omega) | ((have hb := at_all (i := x1.2) hp1 (by omega); omega))) rfl <|
          q_ld1_ro (.f rfl rfl) (.u rfl id) rfl ic_2 rfl <|
          q_int (.f rfl rfl) (.u rfl id) (.u rfl id) rfl rfl <|
          q_or (.t rfl rfl) (.u rfl id) (.u rfl id) rfl <|
          q_and .n (.t rfl) (.u rfl id) rfl <|
          Lex.nil) ?_
      refine run_cond (.t rfl) rfl (fun h6 => ?_) (fun h6 => ?_)
      · try simp only [Bool.and_eq_true, Bool.or_eq_true, Bool.not_eq_true', Bool.and_eq_false_iff, Bool.or_eq_false_iff, Bool.not_eq_false', decide_eq_true_eq, decide_eq_false_iff_not, beq_iff_eq, bne_iff_ne, beq_eq_false_iff_ne, bne_eq_false_iff_eq, Bool.true_and, ne_eq, Decidable.not_not, Int.not_lt, Int.not_le, Nat.not_lt, Nat.not_le, strB_nil, strB_nil', strB_nnil, strB_nnil'] at h6
        refine run_region (q_move .n (.t rfl) rfl <|
            q_move .n (.t rfl) rfl <|
            q_idx_rm .n (.t rfl) (.t rfl) sl_25 (fun _ => by first | omega | assumption | (simp only [List.length_append, List.length_cons, List.length_nil, List.length_replicate, put_len] at * <;> omega) | ((have hb := at_all (i := x1.2) hp1 (by omega); omega))) rfl <|
            q_ld1_ro .n (.t rfl) rfl ic_2 rfl <|
            q_assign .n (.t rfl) rfl <|
            Lex.nil) ?_
        refine run_endB ?_
        refine run_region (q_move .n (.t rfl) rfl <|
            q_add .n (.t rfl) (.c rfl) (fun _ => by first | omega | assumption | (simp only [List.length_append, List.length_cons, List.length_nil, List.length_replicate, put_len] at * <;> omega) | ((have hb := at_all (i := x1.2) hp1 (by omega); omega))) rfl <|
            q_assign .n (.t rfl) rfl <|
            Lex.nil) ?_
        exact run_again (at' exits x1.2, x1.2 + 1) ⟨by first | omega | assumption | (simp only [List.length_append, List.length_cons, List.length_nil, List.length_replicate, put_len] at * <;> omega) | ((have hb := at_all (i := x1.2) hp1 (by omega); omega)), by first | omega | assumption | (simp only [List.length_append, List.length_cons, List.length_nil, List.length_replicate, put_len] at * <;> omega) | ((have hb := at_all (i := x1.2) hp1 (by omega); omega)), by first | omega | assumption | (simp only [List.length_append, List.length_cons, List.length_nil, List.length_replicate, put_len] at * <;> omega) | ((have hb := at_all (i := x1.2) hp1 (by omega); omega))⟩ (by first | omega | assumption | (simp only [List.length_append, List.length_cons, List.length_nil, List.length_replicate, put_len] at * <;> omega) | ((have hb := at_all (i := x1.2) hp1 (by omega); omega))) (sub_of [] ⟨rfl, rfl, rfl, rfl, trivial⟩ trivial rfl)
      · try simp only [Bool.and_eq_true, Bool.or_eq_true, Bool.not_eq_true', Bool.and_eq_false_iff, Bool.or_eq_false_iff, Bool.not_eq_false', decide_eq_true_eq, decide_eq_false_iff_not, beq_iff_eq, bne_iff_ne, beq_eq_false_iff_ne, bne_eq_false_iff_eq, Bool.true_and, ne_eq, Decidable.not_not, Int.not_lt, Int.not_le, Nat.not_lt, Nat.not_le, strB_nil, strB_nil', strB_nnil, strB_nnil'] at h6
        refine run_skip ?_
        refine run_endB ?_
        refine run_region (q_move .n (.t rfl) rfl <|
            q_add .n (.t rfl) (.c rfl) (fun _ => by first | omega | assumption | (simp only [List.length_append, List.length_cons, List.length_nil, List.length_replicate, put_len] at * <;> omega) | ((have hb := at_all (i := x1.2) hp1 (by omega); omega))) rfl <|
            q_assign .n (.t rfl) rfl <|
            Lex.nil) ?_
        exact run_again (x1.1, x1.2 + 1) ⟨by first | omega | assumption | (simp only [List.length_append, List.length_cons, List.length_nil, List.length_replicate, put_len] at * <;> omega) | ((have hb := at_all (i := x1.2) hp1 (by omega); omega)), by first | omega | assumption | (simp only [List.length_append, List.length_cons, List.length_nil, List.length_replicate, put_len] at * <;> omega) | ((have hb := at_all (i := x1.2) hp1 (by omega); omega)), by first | omega | assumption | (simp only [List.length_append, List.length_cons, List.length_nil, List.length_replicate, put_len] at * <;> omega) | ((have hb := at_all (i := x1.2) hp1 (by omega); omega))⟩ (by first | omega | assumption | (simp only [List.length_append, List.length_cons, List.length_nil, List.length_replicate, put_len] at * <;> omega) | ((have hb := at_all (i := x1.2) hp1 (by omega); omega))) (sub_of [] ⟨rfl, rfl, rfl, rfl, trivial⟩ trivial rfl)
    · try simp only [Bool.and_eq_true, Bool.or_eq_true, Bool.not_eq_true', Bool.and_eq_false_iff, Bool.or_eq_false_iff, Bool.not_eq_false', decide_eq_true_eq, decide_eq_false_iff_not, beq_iff_eq, bne_iff_ne, beq_eq_false_iff_ne, bne_eq_false_iff_eq, Bool.true_and, ne_eq, Decidable.not_not, Int.not_lt, Int.not_le, Nat.not_lt, Nat.not_le, strB_nil, strB_nil', strB_nnil, strB_nnil'] at h5
      refine run_exit rfl ?_
      exact run_cont hk3 (x1.1, x1.2) ⟨by first | omega | assumption | (simp only [List.length_append, List.length_cons, List.length_nil, List.length_replicate, put_len] at * <;> omega) | ((have hb := at_all (i := x1.2) hp1 (by omega); omega)), by first | omega | assumption | (simp only [List.length_append, List.length_cons, List.length_nil, List.length_replicate, put_len] at * <;> omega) | ((have hb := at_all (i := x1.2) hp1 (by omega); omega)), by first | omega | assumption | (simp only [List.length_append, List.length_cons, List.length_nil, List.length_replicate, put_len] at * <;> omega) | ((have hb := at_all (i := x1.2) hp1 (by omega); omega)), by first | omega | assumption | (simp only [List.length_append, List.length_cons, List.length_nil, List.length_replicate, put_len] at * <;> omega) | ((have hb := at_all (i := x1.2) hp1 (by omega); omega))⟩ (sub_of [] ⟨rfl, trivial⟩ trivial rfl)

/-! ### spec_l19Safe -/
theorem c_spec_l19Safe (arrivals : List Int) (j : Int) (time : Int) (hp1 : 0 ≤ j ∧ j < arrivals.length) : Con Try.prog 76 [.sl 1 (arrivals.map (V.int .i64)), .int .i64 j, .int .i64 time] [] (.bool (m_spec_l19Safe arrivals j time)) ([]) := by
  refine con_intro (out := fun r : Bool => ((.bool r : V), ([] : List (Nat × Option O)))) (r := (m_spec_l19Safe arrivals j time)) Try.func76 rfl Try.ntmps76 rfl ?_
  refine run_fact (t := 0) rfl fun hl => ?_
  have l1 := hl; clear hl; simp only [List.length_map] at l1
  refine run_seq ?_
  refine run_region (q_assign .n (.c rfl) rfl <|
      Lex.nil) ?_
  refine run_seq ?_
  refine run_region (q_move .n (.t rfl) rfl <|
      q_move .n (.t rfl) rfl <|
      q_idx_rm .n (.t rfl) (.t rfl) sl_25 (fun _ => by first | omega | assumption | (simp only [List.length_append, List.length_cons, List.length_nil, List.length_replicate, put_len] at * <;> omega)) rfl <|
      q_ld1_ro .n (.t rfl) rfl ic_2 rfl <|
      q_int .n (.t rfl) (.c rfl) rfl rfl <|
      q_move .n (.t rfl) rfl <|
      q_move (.f rfl rfl) (.t rfl) rfl <|
      q_move (.f rfl rfl) (.t rfl) rfl <|
      q_move (.f rfl rfl) (.t rfl) rfl <|
      q_idx_rm (.f rfl rfl) (.u rfl id) (.u rfl id) sl_25 (fun hg => by simp only [Bool.and_eq_true, Bool.or_eq_true, Bool.not_eq_true', Bool.and_eq_false_iff, Bool.or_eq_false_iff, Bool.not_eq_false', decide_eq_true_eq, decide_eq_false_iff_not, beq_iff_eq, bne_iff_ne, beq_eq_false_iff_ne, bne_eq_false_iff_eq, Bool.true_and, ne_eq, Decidable.not_not, Int.not_lt, Int.not_le, Nat.not_lt, Nat.not_le, strB_nil, strB_nil', strB_nnil, strB_nnil'] at hg; first | omega | assumption | (simp only [List.length_append, List.length_cons, List.length_nil, List.length_replicate, put_len] at * <;> omega)) rfl <|
      q_ld1_ro (.f rfl rfl) (.u rfl id) rfl ic_2 rfl <|
      q_int (.f rfl rfl) (.u rfl id) (.u rfl id) rfl rfl <|
      q_or .n (.t rfl) (.u rfl id) rfl <|
      q_assign .n (.t rfl) rfl <|
      Lex.nil) ?_
  exact run_ret [] (.cons (.t rfl rfl) .nil) rfl trivial rfl

/-! ### spec_l19Walk -/
theorem c_spec_l19Walk (a : gAirway) (speed : Int) (hp1 : 10 ≤ speed ∧ speed ≤ 300) : Con Try.prog 77 [.rp [.str a.Id, .int .i64 a.From, .int .i64 a.To, .int .i64 a.Length, .int .i64 a.Section, .int .i64 a.Friction, .int .i64 a.Shock], .int .i64 speed] [] (.int .i64 (m_spec_l19Walk a speed)) ([]) := by
  refine con_intro (out := fun r : Int => ((.int .i64 r : V), ([] : List (Nat × Option O)))) (r := (m_spec_l19Walk a speed)) Try.func77 rfl Try.ntmps77 rfl ?_
  refine run_seq ?_
  refine run_region (q_assign .n (.c rfl) rfl <|
      Lex.nil) ?_
  refine run_seq ?_
  refine run_region (q_move .n (.t rfl) rfl <|
      q_nilc_ro .n (.t rfl) rfl <|
      q_fld_ro .n (.t rfl) fo_128_3 rfl <|
      q_ld1_ro .n (.t rfl) rfl ic_2 rfl <|
      q_int .n (.c rfl) (.t rfl) rfl rfl <|
      q_move .n (.t rfl) rfl <|
      q_int .n (.t rfl) (.t rfl) rfl rfl <|
      q_int .n (.t rfl) (.c rfl) rfl rfl <|
      q_move .n (.t rfl) rfl <|
      q_quo .n (.t rfl) (.t rfl) (fun hg => by first | omega | assumption | (simp only [List.length_append, List.length_cons, List.length_nil, List.length_replicate, put_len] at * <;> omega)) rfl <|
      q_assign .n (.t rfl) rfl <|
      Lex.nil) ?_
  exact run_ret [] (.cons (.t rfl rfl) .nil) rfl trivial rfl

/-! ### spec_l19Go -/
theorem c_spec_l19Go (arrivals : List Int) (times : List Int) (from_ : Int) (to : Int) (n_ : Int) (hp1 : 0 ≤ from_ ∧ from_ < times.length) (hp2 : 0 ≤ to ∧ to < times.length) (hp3 : times.length = arrivals.length) : Con Try.prog 78 [.sl 1 (arrivals.map (V.int .i64)), .os 1 times.length, .int .i64 from_, .int .i64 to, .int .i64 n_] [(1, some (.row 2 1 (times.map (V.int .i64))))] (.tup []) ([(1, some (.row 2 1 ((m_spec_l19Go arrivals times from_ to n_).map (V.int .i64))))]) := by
  refine con_intro (out := fun r : (List Int) => ((.tup [] : V), ([(1, some (.row 2 1 (r.map (V.int .i64))))] : List (Nat × Option O)))) (r := (m_spec_l19Go arrivals times from_ to n_)) Try.func78 rfl Try.ntmps78 rfl ?_
  refine run_fact (t := 0) rfl fun hl => ?_
  have l1 := hl; clear hl; simp only [List.length_map] at l1
  refine run_factH (l := 1) rfl fun hl => ?_
  have l2 := hl; clear hl; simp only [List.length_map] at l2
  refine run_seq ?_
  refine run_seq ?_
  refine run_region (q_move .n (.t rfl) rfl <|
      q_move .n (.t rfl) rfl <|
      q_idx_ow .n (.t rfl) (.t rfl) sl_25 (fun _ => by first | omega | assumption | (simp only [List.length_append, List.length_cons, List.length_nil, List.length_replicate, put_len] at * <;> omega)) rfl <|
      q_ld1_row .n (.t rfl) rfl (fun _ => by first | omega | assumption | (simp only [List.length_append, List.length_cons, List.length_nil, List.length_replicate, put_len] at * <;> omega)) rfl rfl rfl ic_2 rfl <|
      q_int .n (.t rfl) (.c rfl) rfl rfl <|
      Lex.nil) ?_
  refine run_cond (.t rfl) rfl (fun h3 => ?_) (fun h3 => ?_)
  · try simp only [Bool.and_eq_true, Bool.or_eq_true, Bool.not_eq_true', Bool.and_eq_false_iff, Bool.or_eq_false_iff, Bool.not_eq_false', decide_eq_true_eq, decide_eq_false_iff_not, beq_iff_eq, bne_iff_ne, beq_eq_false_iff_ne, bne_eq_false_iff_eq, Bool.true_and, ne_eq, Decidable.not_not, Int.not_lt, Int.not_le, Nat.not_lt, Nat.not_le, strB_nil, strB_nil', strB_nnil, strB_nnil'] at h3
    exact run_ret [] .nil rfl ⟨rfl, trivial⟩ rfl
  · try simp only [Bool.and_eq_true, Bool.or_eq_true, Bool.not_eq_true', Bool.and_eq_false_iff, Bool.or_eq_false_iff, Bool.not_eq_false', decide_eq_true_eq, decide_eq_false_iff_not, beq_iff_eq, bne_iff_ne, beq_eq_false_iff_ne, bne_eq_false_iff_eq, Bool.true_and, ne_eq, Decidable.not_not, Int.not_lt, Int.not_le, Nat.not_lt, Nat.not_le, strB_nil, strB_nil', strB_nnil, strB_nnil'] at h3
    refine run_skip ?_
    refine run_seq ?_
    refine run_region (q_move .n (.t rfl) rfl <|
        q_move .n (.t rfl) rfl <|
        q_idx_ow .n (.t rfl) (.t rfl) sl_25 (fun _ => by first | omega | assumption | (simp only [List.length_append, List.length_cons, List.length_nil, List.length_replicate, put_len] at * <;> omega)) rfl <|
        q_ld1_row .n (.t rfl) rfl (fun _ => by first | omega | assumption | (simp only [List.length_append, List.length_cons, List.length_nil, List.length_replicate, put_len] at * <;> omega)) rfl rfl rfl ic_2 rfl <|
        q_move .n (.t rfl) rfl <|
        q_int .n (.t rfl) (.t rfl) rfl rfl <|
        q_assign .n (.t rfl) rfl <|
        Lex.nil) ?_
    refine run_seq ?_
    refine run_region (q_move .n (.t rfl) rfl <|
        q_move .n (.t rfl) rfl <|
        q_move .n (.t rfl) rfl <|
        q_call0 (full := false) .n .f en_76 (.cons (.t rfl) (.cons (.t rfl) (.cons (.t rfl) .nil))) (.cons (.b (.a (.same rfl))) (.cons (.b (.a (.same rfl))) (.cons (.b (.a (.same rfl))) .nil))) (fun hg => c_spec_l19Safe arrivals to (IntKind.wrap .i64 ((at' times from_) + n_)) (by first | omega | assumption | (simp only [List.length_append, List.length_cons, List.length_nil, List.length_replicate, put_len] at * <;> omega))) rfl (fun h => Bool.noConfusion h) rfl <|
        q_move .n (.t rfl) rfl <|
        q_move (.t rfl rfl) (.t rfl) rfl <|
        q_move (.t rfl rfl) (.t rfl) rfl <|
        q_idx_ow (.t rfl rfl) (.u rfl id) (.u rfl id) sl_25 (fun hg => by simp only [Bool.and_eq_true, Bool.or_eq_true, Bool.not_eq_true', Bool.and_eq_false_iff, Bool.or_eq_false_iff, Bool.not_eq_false', decide_eq_true_eq, decide_eq_false_iff_not, beq_iff_eq, bne_iff_ne, beq_eq_false_iff_ne, bne_eq_false_iff_eq, Bool.true_and, ne_eq, Decidable.not_not, Int.not_lt, Int.not_le, Nat.not_lt, Nat.not_le, strB_nil, strB_nil', strB_nnil, strB_nnil'] at hg; first | omega | assumption | (simp only [List.length_append, List.length_cons, List.length_nil, List.length_replicate, put_len] at * <;> omega)) rfl <|
        q_ld1_row (.t rfl rfl) (.u rfl id) rfl (fun hg => by simp only [Bool.and_eq_true, Bool.or_eq_true, Bool.not_eq_true', Bool.and_eq_false_iff, Bool.or_eq_false_iff, Bool.not_eq_false', decide_eq_true_eq, decide_eq_false_iff_not, beq_iff_eq, bne_iff_ne, beq_eq_false_iff_ne, bne_eq_false_iff_eq, Bool.true_and, ne_eq, Decidable.not_not, Int.not_lt, Int.not_le, Nat.not_lt, Nat.not_le, strB_nil, strB_nil', strB_nnil, strB_nnil'] at hg; first | omega | assumption | (simp only [List.length_append, List.length_cons, List.length_nil, List.length_replicate, put_len] at * <;> omega)) rfl rfl rfl ic_2 rfl <|
        q_int (.t rfl rfl) (.u rfl id) (.c rfl) rfl rfl <|
        q_move (.t rfl rfl) (.u rfl id) rfl <|
        q_move (.f rfl rfl) (.t rfl) rfl <|
        q_move (.f rfl rfl) (.t rfl) rfl <|
        q_move (.f rfl rfl) (.t rfl) rfl <|
        q_idx_ow (.f rfl rfl) (.u rfl id) (.u rfl id) sl_25 (fun hg => by simp only [Bool.and_eq_true, Bool.or_eq_true, Bool.not_eq_true', Bool.and_eq_false_iff, Bool.or_eq_false_iff, Bool.not_eq_false', decide_eq_true_eq, decide_eq_false_iff_not, beq_iff_eq, bne_iff_ne, beq_eq_false_iff_ne, bne_eq_false_iff_eq, Bool.true_and, ne_eq, Decidable.not_not, Int.not_lt, Int.not_le, Nat.not_lt, Nat.not_le, strB_nil, strB_nil', strB_nnil, strB_nnil'] at hg; first | omega | assumption | (simp only [List.length_append, List.length_cons, List.length_nil, List.length_replicate, put_len] at * <;> omega)) rfl <|
        q_ld1_row (.f rfl rfl) (.u rfl id) rfl (fun hg => by simp only [Bool.and_eq_true, Bool.or_eq_true, Bool.not_eq_true', Bool.and_eq_false_iff, Bool.or_eq_false_iff, Bool.not_eq_false', decide_eq_true_eq, decide_eq_false_iff_not, beq_iff_eq, bne_iff_ne, beq_eq_false_iff_ne, bne_eq_false_iff_eq, Bool.true_and, ne_eq, Decidable.not_not, Int.not_lt, Int.not_le, Nat.not_lt, Nat.not_le, strB_nil, strB_nil', strB_nnil, strB_nnil'] at hg; first | omega | assumption | (simp only [List.length_append, List.length_cons, List.length_nil, List.length_replicate, put_len] at * <;> omega)) rfl rfl rfl ic_2 rfl <|
        q_int (.f rfl rfl) (.u rfl id) (.u rfl id) rfl rfl <|
        q_or (.t rfl rfl) (.u rfl id) (.u rfl id) rfl <|
        q_and .n (.t rfl) (.u rfl id) rfl <|
        Lex.nil) ?_
    refine run_cond (.t rfl) rfl (fun h4 => ?_) (fun h4 => ?_)
    · try simp only [Bool.and_eq_true, Bool.or_eq_true, Bool.not_eq_true', Bool.and_eq_false_iff, Bool.or_eq_false_iff, Bool.not_eq_false', decide_eq_true_eq, decide_eq_false_iff_not, beq_iff_eq, bne_iff_ne, beq_eq_false_iff_ne, bne_eq_false_iff_eq, Bool.true_and, ne_eq, Decidable.not_not, Int.not_lt, Int.not_le, Nat.not_lt, Nat.not_le, strB_nil, strB_nil', strB_nnil, strB_nnil'] at h4
      refine run_region (q_move .n (.t rfl) rfl <|
          q_move .n (.t rfl) rfl <|
          q_move .n (.t rfl) rfl <|
          q_idx_ow .n (.t rfl) (.t rfl) sl_25 (fun _ => by first | omega | assumption | (simp only [List.length_append, List.length_cons, List.length_nil, List.length_replicate, put_len] at * <;> omega)) rfl <|
          q_st_rowm (IntKind.wrap .i64 ((at' times from_) + n_)) .n rfl (.t rfl) (.t rfl) rfl ts_2 (by first | omega | assumption | (simp only [List.length_append, List.length_cons, List.length_nil, List.length_replicate, put_len] at * <;> omega)) rfl rfl <|
          Lex.nil) ?_
      exact run_end [] .nil rfl ⟨rfl, trivial⟩ rfl
    · try simp only [Bool.and_eq_true, Bool.or_eq_true, Bool.not_eq_true', Bool.and_eq_false_iff, Bool.or_eq_false_iff, Bool.not_eq_false', decide_eq_true_eq, decide_eq_false_iff_not, beq_iff_eq, bne_iff_ne, beq_eq_false_iff_ne, bne_eq_false_iff_eq, Bool.true_and, ne_eq, Decidable.not_not, Int.not_lt, Int.not_le, Nat.not_lt, Nat.not_le, strB_nil, strB_nil', strB_nnil, strB_nnil'] at h4
      refine run_skip ?_
      exact run_end [] .nil rfl ⟨rfl, trivial⟩ rfl

/-! ### spec_l19Times -/
set_option maxHeartbeats 4000000 in
theorem c_spec_l19Times (m_ : gMine) (arrivals : List Int) (blocked : Int) (c_ : gCrew) (start : Int) (hp1 : MineIn m_) (hp2 : (arrivals.length : Int) = m_.Junctions) (hp3 : CrewIn m_ c_) (hp4 : 0 ≤ start ∧ start ≤ 36000) : Con Try.prog 37 [.rp [.int .i64 m_.Junctions, .sl 7 (m_.Airways.map gAirway.v)], .sl 1 (arrivals.map (V.int .i64)), .int .i64 blocked, .rp [.str c_.Id, .int .i64 c_.Junction, .int .i64 c_.Speed], .int .i64 start] [] (.os 100 (m_spec_l19Times m_ arrivals blocked c_ start).length) ([(100, some (.row 2 1 ((m_spec_l19Times m_ arrivals blocked c_ start).map (V.int .i64))))]) := by
  refine con_intro (out := fun r : (List Int) => ((.os 100 r.length : V), ([(100, some (.row 2 1 (r.map (V.int .i64))))] : List (Nat × Option O)))) (r := (m_spec_l19Times m_ arrivals blocked c_ start)) Try.func37 rfl Try.ntmps37 rfl ?_
  have hC1 := hp3.1
  have hC2 := hp3.2
  have hJ1 := hp1.1
  have hA1 := hp1.2.1
  refine run_factP (t := 0) 1 rfl rfl fun hl => ?_
  have l1 := hl; clear hl; simp only [List.length_map] at l1
  refine run_fact (t := 1) rfl fun hl => ?_
  have l2 := hl; clear hl; simp only [List.length_map] at l2
  refine run_seq ?_
  refine run_region (q_assign .n (.c rfl) rfl <|
      Lex.nil) ?_
  refine run_seq ?_
  refine run_region (q_bslicem ([] : List Int) (f := V.int .i64) (l := 200) .n rfl rfl .nil rfl si_25 zv_2 rfl rfl rfl <|
      q_assign .n (.t rfl) rfl <|
      Lex.nil) ?_
  refine run_seq ?_
  refine run_seq ?_
  refine run_region (q_assign .n (.c rfl) rfl <|
      Lex.nil) ?_
  refine run_block ?_
  refine run_LOOP (m_spec_l19Times_b1 m_ arrivals blocked c_ start) _ _ _ rfl (fun (x1 : (List Int) × Int) => 0 ≤ x1.2 ∧ x1.2 ≤ m_.Junctions ∧ (x1.1.length : Int) + 0 ≤ x1.2 + (([] : List Int).length : Int) ∧ (x1.1.length : Int) = x1.2) (fun x1 => 0 ≤ x1.2 ∧ x1.2 ≤ m_.Junctions ∧ (x1.1.length : Int) + 0 ≤ x1.2 + (([] : List Int).length : Int) ∧ (x1.1.length : Int) = x1.2 ∧ m_.Junctions ≤ x1.2) (fun x1 => (m_.Junctions - x1.2 : Int).toNat) (fun x1 => ⟨[(0, some (true, .rp [.int .i64 m_.Junctions, .sl 7 (m_.Airways.map gAirway.v)])), (1, some (true, .sl 1 (arrivals.map (V.int .i64)))), (2, some (true, .int .i64 blocked)), (3, some (true, .rp [.str c_.Id, .int .i64 c_.Junction, .int .i64 c_.Speed])), (4, some (true, .int .i64 start)), (11, some (true, .os 200 x1.1.length)), (12, some (true, .int .i64 x1.2))], [(200, some (.row 2 1 (x1.1.map (V.int .i64))))]⟩) (fun x1 => ⟨[(0, some (true, .rp [.int .i64 m_.Junctions, .sl 7 (m_.Airways.map gAirway.v)])), (1, some (true, .sl 1 (arrivals.map (V.int .i64)))), (2, some (true, .int .i64 blocked)), (3, some (true, .rp [.str c_.Id, .int .i64 c_.Junction, .int .i64 c_.Speed])), (4, some (true, .int .i64 start)), (11, some (true, .os 200 x1.1.length))], [(200, some (.row 2 1 (x1.1.map (V.int .i64))))]⟩) ⟨by first | omega | assumption | (simp only [List.length_append, List.length_cons, List.length_nil, List.length_replicate, put_len] at * <;> omega) | ((simp only [go_len, put_len] at * <;> omega)) | ((have hw0 := hp1.at (i := x3.1) (by omega); unfold AirIn at hw0; (try simp only [go_len] at *); omega)), by first | omega | assumption | (simp only [List.length_append, List.length_cons, List.length_nil, List.length_replicate, put_len] at * <;> omega) | ((simp only [go_len, put_len] at * <;> omega)) | ((have hw0 := hp1.at (i := x3.1) (by omega); unfold AirIn at hw0; (try simp only [go_len] at *); omega)), by first | omega | assumption | (simp only [List.length_append, List.length_cons, List.length_nil, List.length_replicate, put_len] at * <;> omega) | ((simp only [go_len, put_len] at * <;> omega)) | ((have hw0 := hp1.at (i := x3.1) (by omega); unfold AirIn at hw0; (try simp only [go_len] at *); omega)), by first | omega | assumption | (simp only [List.length_append, List.length_cons, List.length_nil, List.length_replicate, put_len] at * <;> omega) | ((simp only [go_len, put_len] at * <;> omega)) | ((have hw0 := hp1.at (i := x3.1) (by omega); unfold AirIn at hw0; (try simp only [go_len] at *); omega))⟩ (by first | omega | assumption | (simp only [List.length_append, List.length_cons, List.length_nil, List.length_replicate, put_len] at * <;> omega) | ((simp only [go_len, put_len] at * <;> omega)) | ((have hw0 := hp1.at (i := x3.1) (by omega); unfold AirIn at hw0; (try simp only [go_len] at *); omega))) (sub_of [] ⟨rfl, rfl, rfl, rfl, rfl, rfl, rfl, trivial⟩ ⟨rfl, trivial⟩ rfl) ?_ ?_
  · intro x1 i6
    obtain ⟨e31, e32, e33, e34, e35⟩ := i6
    try dsimp only at *
    refine run_seq ?_
    refine run_seq ?_
    refine run_region (q_move .n (.t rfl) rfl <|
        q_move .n (.t rfl) rfl <|
        q_nilc_ro .n (.t rfl) rfl <|
        q_fld_ro .n (.t rfl) fo_37_1 rfl <|
        q_ld1_ro .n (.t rfl) rfl ic_2 rfl <|
        q_move .n (.t rfl) rfl <|
        q_call0 (full := false) .n .f en_76 (.cons (.t rfl) (.cons (.t rfl) (.cons (.t rfl) .nil))) (.cons (.b (.a (.same rfl))) (.cons (.b (.a (.same rfl))) (.cons (.b (.a (.same rfl))) .nil))) (fun hg => c_spec_l19Safe arrivals c_.Junction start (by first | omega | assumption | (simp only [List.length_append, List.length_cons, List.length_nil, List.length_replicate, put_len] at * <;> omega) | ((simp only [go_len, put_len] at * <;> omega)) | ((have hw0 := hp1.at (i := x3.1) (by omega); unfold AirIn at hw0; (try simp only [go_len] at *); omega)))) rfl (fun h => Bool.noConfusion h) rfl <|
        q_not .n (.t rfl) rfl <|
        Lex.nil) ?_
    refine run_cond (.t rfl) rfl (fun h7 => ?_) (fun h7 => ?_)
    · try simp only [Bool.and_eq_true, Bool.or_eq_true, Bool.not_eq_true', Bool.and_eq_false_iff, Bool.or_eq_false_iff, Bool.not_eq_false', decide_eq_true_eq, decide_eq_false_iff_not, beq_iff_eq, bne_iff_ne, beq_eq_false_iff_ne, bne_eq_false_iff_eq, Bool.true_and, ne_eq, Decidable.not_not, Int.not_lt, Int.not_le, Nat.not_lt, Nat.not_le, strB_nil, strB_nil', strB_nnil, strB_nnil'] at h7
      refine run_seq ?_
      refine run_region (q_move .n (.t rfl) rfl <|
          q_assign .n (.t rfl) rfl <|
          Lex.nil) ?_
      exact run_ret [(100, 200)] (.cons (.t rfl rfl) .nil) (by first | rfl | (simp only [put_len]; rfl)) ⟨rfl, trivial⟩ rfl
    · try simp only [Bool.and_eq_true, Bool.or_eq_true, Bool.not_eq_true', Bool.and_eq_false_iff, Bool.or_eq_false_iff, Bool.not_eq_false', decide_eq_true_eq, decide_eq_false_iff_not, beq_iff_eq, bne_iff_ne, beq_eq_false_iff_ne, bne_eq_false_iff_eq, Bool.true_and, ne_eq, Decidable.not_not, Int.not_lt, Int.not_le, Nat.not_lt, Nat.not_le, strB_nil, strB_nil', strB_nnil, strB_nnil'] at h7
      refine run_skip ?_
      refine run_seq ?_
      refine run_region (q_move .n (.t rfl) rfl <|
          q_move .n (.t rfl) rfl <|
          q_nilc_ro .n (.t rfl) rfl <|
          q_fld_ro .n (.t rfl) fo_37_1 rfl <|
          q_ld1_ro .n (.t rfl) rfl ic_2 rfl <|
          q_move .n (.t rfl) rfl <|
          q_idx_ow .n (.t rfl) (.t rfl) sl_25 (fun _ => by first | omega | assumption | (simp only [List.length_append, List.length_cons, List.length_nil, List.length_replicate, put_len] at * <;> omega) | ((simp only [go_len, put_len] at * <;> omega)) | ((have hw0 := hp1.at (i := x3.1) (by omega); unfold AirIn at hw0; (try simp only [go_len] at *); omega))) rfl <|
          q_st_rowm start .n rfl (.t rfl) (.t rfl) rfl ts_2 (by first | omega | assumption | (simp only [List.length_append, List.length_cons, List.length_nil, List.length_replicate, put_len] at * <;> omega) | ((simp only [go_len, put_len] at * <;> omega)) | ((have hw0 := hp1.at (i := x3.1) (by omega); unfold AirIn at hw0; (try simp only [go_len] at *); omega))) rfl rfl <|
          Lex.nil) ?_
      refine run_seq ?_
      refine run_seq ?_
      refine run_region (q_assign .n (.c rfl) rfl <|
          Lex.nil) ?_
      refine run_block ?_
      refine run_LOOP (m_spec_l19Times_b2 m_ arrivals blocked c_ start x1) _ _ _ rfl (fun (x2 : (List Int) × Int) => 0 ≤ x2.2 ∧ x2.2 ≤ m_.Junctions ∧ (x2.1.length : Int) = m_.Junctions) (fun x2 => 0 ≤ x2.2 ∧ x2.2 ≤ m_.Junctions ∧ (x2.1.length : Int) = m_.Junctions ∧ m_.Junctions ≤ x2.2) (fun x2 => (m_.Junctions - x2.2 : Int).toNat) (fun x2 => ⟨[(0, some (true, .rp [.int .i64 m_.Junctions, .sl 7 (m_.Airways.map gAirway.v)])), (1, some (true, .sl 1 (arrivals.map (V.int .i64)))), (2, some (true, .int .i64 blocked)), (3, some (true, .rp [.str c_.Id, .int .i64 c_.Junction, .int .i64 c_.Speed])), (11, some (true, .os 200 x2.1.length)), (13, some (true, .int .i64 x2.2))], [(200, some (.row 2 1 (x2.1.map (V.int .i64))))]⟩) (fun x2 => ⟨[(11, some (true, .os 200 x2.1.length))], [(200, some (.row 2 1 (x2.1.map (V.int .i64))))]⟩) ⟨by first | omega | assumption | (simp only [List.length_append, List.length_cons, List.length_nil, List.length_replicate, put_len] at * <;> omega) | ((simp only [go_len, put_len] at * <;> omega)) | ((have hw0 := hp1.at (i := x3.1) (by omega); unfold AirIn at hw0; (try simp only [go_len] at *); omega)), by first | omega | assumption | (simp only [List.length_append, List.length_cons, List.length_nil, List.length_replicate, put_len] at * <;> omega) | ((simp only [go_len, put_len] at * <;> omega)) | ((have hw0 := hp1.at (i := x3.1) (by omega); unfold AirIn at hw0; (try simp only [go_len] at *); omega)), by first | omega | assumption | (simp only [List.length_append, List.length_cons, List.length_nil, List.length_replicate, put_len] at * <;> omega) | ((simp only [go_len, put_len] at * <;> omega)) | ((have hw0 := hp1.at (i := x3.1) (by omega); unfold AirIn at hw0; (try simp only [go_len] at *); omega))⟩ (by first | omega | assumption | (simp only [List.length_append, List.length_cons, List.length_nil, List.length_replicate, put_len] at * <;> omega) | ((simp only [go_len, put_len] at * <;> omega)) | ((have hw0 := hp1.at (i := x3.1) (by omega); unfold AirIn at hw0; (try simp only [go_len] at *); omega))) (sub_of [] ⟨rfl, rfl, rfl, rfl, os_len rfl (by first | (simp only [put_len]; done) | (first | omega | assumption | (simp only [List.length_append, List.length_cons, List.length_nil, List.length_replicate, put_len] at * <;> omega) | ((simp only [go_len, put_len] at * <;> omega)) | ((have hw0 := hp1.at (i := x3.1) (by omega); unfold AirIn at hw0; (try simp only [go_len] at *); omega)))), rfl, trivial⟩ ⟨rfl, trivial⟩ rfl) ?_ ?_
      · intro x2 i23
        obtain ⟨e24, e25, e26, e27⟩ := i23
        try dsimp only at *
        refine run_seq ?_
        refine run_region (q_move .n (.t rfl) rfl <|
            q_assign .n (.t rfl) rfl <|
            Lex.nil) ?_
        exact run_ret [(100, 200)] (.cons (.t rfl rfl) .nil) (by first | rfl | (simp only [put_len]; rfl)) ⟨rfl, trivial⟩ rfl
      · intro rec2 k2 hk8 x2 i9
        obtain ⟨e28, e29, e30⟩ := i9
        try dsimp only at *
        refine run_seq ?_
        refine run_seq ?_
        refine run_region (q_move .n (.t rfl) rfl <|
            q_move .n (.t rfl) rfl <|
            q_nilc_ro .n (.t rfl) rfl <|
            q_fld_ro .n (.t rfl) fo_34_0 rfl <|
            q_ld1_ro .n (.t rfl) rfl ic_2 rfl <|
            q_int .n (.t rfl) (.t rfl) rfl rfl <|
            Lex.nil) ?_
        refine run_cond (.t rfl) rfl (fun h10 => ?_) (fun h10 => ?_)
        · try simp only [Bool.and_eq_true, Bool.or_eq_true, Bool.not_eq_true', Bool.and_eq_false_iff, Bool.or_eq_false_iff, Bool.not_eq_false', decide_eq_true_eq, decide_eq_false_iff_not, beq_iff_eq, bne_iff_ne, beq_eq_false_iff_ne, bne_eq_false_iff_eq, Bool.true_and, ne_eq, Decidable.not_not, Int.not_lt, Int.not_le, Nat.not_lt, Nat.not_le, strB_nil, strB_nil', strB_nnil, strB_nnil'] at h10
          refine run_skip ?_
          refine run_seq ?_
          refine run_block ?_
          refine run_seq ?_
          refine run_region (q_assign .n (.c rfl) rfl <|
              Lex.nil) ?_
          refine run_block ?_
          refine run_LOOP (m_spec_l19Times_b3 m_ arrivals blocked c_ start x1 rec2 k2 x2) _ _ _ rfl (fun (x3 : Int × (List Int)) => 0 ≤ x3.1 ∧ x3.1 ≤ (m_.Airways.length : Int) ∧ (x3.2.length : Int) = m_.Junctions) (fun x3 => 0 ≤ x3.1 ∧ x3.1 ≤ (m_.Airways.length : Int) ∧ (x3.2.length : Int) = m_.Junctions ∧ (m_.Airways.length : Int) ≤ x3.1) (fun x3 => ((m_.Airways.length : Int) - x3.1 : Int).toNat) (fun x3 => ⟨[(0, some (true, .rp [.int .i64 m_.Junctions, .sl 7 (m_.Airways.map gAirway.v)])), (1, some (true, .sl 1 (arrivals.map (V.int .i64)))), (2, some (true, .int .i64 blocked)), (3, some (true, .rp [.str c_.Id, .int .i64 c_.Junction, .int .i64 c_.Speed])), (11, some (true, .os 200 x3.2.length)), (13, some (true, .int .i64 x2.2)), (14, some (true, .int .i64 x3.1))], [(200, some (.row 2 1 (x3.2.map (V.int .i64))))]⟩) (fun x3 => ⟨[(0, some (true, .rp [.int .i64 m_.Junctions, .sl 7 (m_.Airways.map gAirway.v)])), (1, some (true, .sl 1 (arrivals.map (V.int .i64)))), (2, some (true, .int .i64 blocked)), (3, some (true, .rp [.str c_.Id, .int .i64 c_.Junction, .int .i64 c_.Speed])), (11, some (true, .os 200 x3.2.length)), (13, some (true, .int .i64 x2.2))], [(200, some (.row 2 1 (x3.2.map (V.int .i64))))]⟩) ⟨by first | omega | assumption | (simp only [List.length_append, List.length_cons, List.length_nil, List.length_replicate, put_len] at * <;> omega) | ((simp only [go_len, put_len] at * <;> omega)) | ((have hw0 := hp1.at (i := x3.1) (by omega); unfold AirIn at hw0; (try simp only [go_len] at *); omega)), by first | omega | assumption | (simp only [List.length_append, List.length_cons, List.length_nil, List.length_replicate, put_len] at * <;> omega) | ((simp only [go_len, put_len] at * <;> omega)) | ((have hw0 := hp1.at (i := x3.1) (by omega); unfold AirIn at hw0; (try simp only [go_len] at *); omega)), by first | omega | assumption | (simp only [List.length_append, List.length_cons, List.length_nil, List.length_replicate, put_len] at * <;> omega) | ((simp only [go_len, put_len] at * <;> omega)) | ((have hw0 := hp1.at (i := x3.1) (by omega); unfold AirIn at hw0; (try simp only [go_len] at *); omega))⟩ (by first | omega | assumption | (simp only [List.length_append, List.length_cons, List.length_nil, List.length_replicate, put_len] at * <;> omega) | ((simp only [go_len, put_len] at * <;> omega)) | ((have hw0 := hp1.at (i := x3.1) (by omega); unfold AirIn at hw0; (try simp only [go_len] at *); omega))) (sub_of [] ⟨rfl, rfl, rfl, rfl, rfl, rfl, rfl, trivial⟩ ⟨rfl, trivial⟩ rfl) ?_ ?_
          · intro x3 i15
            obtain ⟨e16, e17, e18, e19⟩ := i15
            try dsimp only at *
            refine run_endB ?_
            refine run_region (q_move .n (.t rfl) rfl <|
                q_add .n (.t rfl) (.c rfl) (fun _ => by first | omega | assumption | (simp only [List.length_append, List.length_cons, List.length_nil, List.length_replicate, put_len] at * <;> omega) | ((simp only [go_len, put_len] at * <;> omega)) | ((have hw0 := hp1.at (i := x3.1) (by omega); unfold AirIn at hw0; (try simp only [go_len] at *); omega))) rfl <|
                q_assign .n (.t rfl) rfl <|
                Lex.nil) ?_
            exact run_again (x3.2, x2.2 + 1) ⟨by first | omega | assumption | (simp only [List.length_append, List.length_cons, List.length_nil, List.length_replicate, put_len] at * <;> omega) | ((simp only [go_len, put_len] at * <;> omega)) | ((have hw0 := hp1.at (i := x3.1) (by omega); unfold AirIn at hw0; (try simp only [go_len] at *); omega)), by first | omega | assumption | (simp only [List.length_append, List.length_cons, List.length_nil, List.length_replicate, put_len] at * <;> omega) | ((simp only [go_len, put_len] at * <;> omega)) | ((have hw0 := hp1.at (i := x3.1) (by omega); unfold AirIn at hw0; (try simp only [go_len] at *); omega)), by first | omega | assumption | (simp only [List.length_append, List.length_cons, List.length_nil, List.length_replicate, put_len] at * <;> omega) | ((simp only [go_len, put_len] at * <;> omega)) | ((have hw0 := hp1.at (i := x3.1) (by omega); unfold AirIn at hw0; (try simp only [go_len] at *); omega))⟩ (by first | omega | assumption | (simp only [List.length_append, List.length_cons, List.length_nil, List.length_replicate, put_len] at * <;> omega) | ((simp only [go_len, put_len] at * <;> omega)) | ((have hw0 := hp1.at (i := x3.1) (by omega); unfold AirIn at hw0; (try simp only [go_len] at *); omega))) (sub_of [] ⟨rfl, rfl, rfl, rfl, rfl, rfl, trivial⟩ ⟨rfl, trivial⟩ rfl)
          · intro rec3 k3 hk11 x3 i12
            obtain ⟨e20, e21, e22⟩ := i12
            try dsimp only at *
            refine run_seq ?_
            refine run_seq ?_
            refine run_region (q_move .n (.t rfl) rfl <|
                q_move .n (.t rfl) rfl <|
                q_nilc_ro .n (.t rfl) rfl <|
                q_fld_ro .n (.t rfl) fo_34_1 rfl <|
                q_ld1_ro .n (.t rfl) rfl ic_32 rfl <|
                q_len .n (.t rfl) rfl len_map ss_32 rfl <|
                q_int .n (.t rfl) (.t rfl) rfl rfl <|
                Lex.nil) ?_
            refine run_cond (.t rfl) rfl (fun h13 => ?_) (fun h13 => ?_)
            · try simp only [Bool.and_eq_true, Bool.or_eq_true, Bool.not_eq_true', Bool.and_eq_false_iff, Bool.or_eq_false_iff, Bool.not_eq_false', decide_eq_true_eq, decide_eq_false_iff_not, beq_iff_eq, bne_iff_ne, beq_eq_false_iff_ne, bne_eq_false_iff_eq, Bool.true_and, ne_eq, Decidable.not_not, Int.not_lt, Int.not_le, Nat.not_lt, Nat.not_le, strB_nil, strB_nil', strB_nnil, strB_nnil'] at h13
              refine run_skip ?_
              refine run_seq ?_
              refine run_block ?_
              refine run_seq ?_
              refine run_seq ?_
              refine run_region (q_move .n (.t rfl) rfl <|
                  q_move .n (.t rfl) rfl <|
                  q_int .n (.t rfl) (.t rfl) rfl rfl <|
                  Lex.nil) ?_
              refine run_cond (.t rfl) rfl (fun h14 => ?_) (fun h14 => ?_)
              · try simp only [Bool.and_eq_true, Bool.or_eq_true, Bool.not_eq_true', Bool.and_eq_false_iff, Bool.or_eq_false_iff, Bool.not_eq_false', decide_eq_true_eq, decide_eq_false_iff_not, beq_iff_eq, bne_iff_ne, beq_eq_false_iff_ne, bne_eq_false_iff_eq, Bool.true_and, ne_eq, Decidable.not_not, Int.not_lt, Int.not_le, Nat.not_lt, Nat.not_le, strB_nil, strB_nil', strB_nnil, strB_nnil'] at h14
                refine run_exit rfl ?_
                refine run_region (q_move .n (.t rfl) rfl <|
                    q_add .n (.t rfl) (.c rfl) (fun _ => by first | omega | assumption | (simp only [List.length_append, List.length_cons, List.length_nil, List.length_replicate, put_len] at * <;> omega) | ((simp only [go_len, put_len] at * <;> omega)) | ((have hw0 := hp1.at (i := x3.1) (by omega); unfold AirIn at hw0; (try simp only [go_len] at *); omega))) rfl <|
                    q_assign .n (.t rfl) rfl <|
                    Lex.nil) ?_
                exact run_again (x3.1 + 1, x3.2) ⟨by first | omega | assumption | (simp only [List.length_append, List.length_cons, List.length_nil, List.length_replicate, put_len] at * <;> omega) | ((simp only [go_len, put_len] at * <;> omega)) | ((have hw0 := hp1.at (i := x3.1) (by omega); unfold AirIn at hw0; (try simp only [go_len] at *); omega)), by first | omega | assumption | (simp only [List.length_append, List.length_cons, List.length_nil, List.length_replicate, put_len] at * <;> omega) | ((simp only [go_len, put_len] at * <;> omega)) | ((have hw0 := hp1.at (i := x3.1) (by omega); unfold AirIn at hw0; (try simp only [go_len] at *); omega)), by first | omega | assumption | (simp only [List.length_append, List.length_cons, List.length_nil, List.length_replicate, put_len] at * <;> omega) | ((simp only [go_len, put_len] at * <;> omega)) | ((have hw0 := hp1.at (i := x3.1) (by omega); unfold AirIn at hw0; (try simp only [go_len] at *); omega))⟩ (by first | omega | assumption | (simp only [List.length_append, List.length_cons, List.length_nil, List.length_replicate, put_len] at * <;> omega) | ((simp only [go_len, put_len] at * <;> omega)) | ((have hw0 := hp1.at (i := x3.1) (by omega); unfold AirIn at hw0; (try simp only [go_len] at *); omega))) (sub_of [] ⟨rfl, rfl, rfl, rfl, rfl, rfl, rfl, trivial⟩ ⟨rfl, trivial⟩ rfl)
              · try simp only [Bool.and_eq_true, Bool.or_eq_true, Bool.not_eq_true', Bool.and_eq_false_iff, Bool.or_eq_false_iff, Bool.not_eq_false', decide_eq_true_eq, decide_eq_false_iff_not, beq_iff_eq, bne_iff_ne, beq_eq_false_iff_ne, bne_eq_false_iff_eq, Bool.true_and, ne_eq, Decidable.not_not, Int.not_lt, Int.not_le, Nat.not_lt, Nat.not_le, strB_nil, strB_nil', strB_nnil, strB_nnil'] at h14
                refine run_skip ?_
                refine run_seq ?_
                refine run_region (q_move .n (.t rfl) rfl <|
                    q_nilc_ro .n (.t rfl) rfl <|
                    q_fld_ro .n (.t rfl) fo_34_1 rfl <|
                    q_ld1_ro .n (.t rfl) rfl ic_32 rfl <|
                    q_move .n (.t rfl) rfl <|
                    q_idx_rm .n (.t rfl) (.t rfl) sl_32 (fun _ => by first | omega | assumption | (simp only [List.length_append, List.length_cons, List.length_nil, List.length_replicate, put_len] at * <;> omega) | ((simp only [go_len, put_len] at * <;> omega)) | ((have hw0 := hp1.at (i := x3.1) (by omega); unfold AirIn at hw0; (try simp only [go_len] at *); omega))) rfl <|
                    q_assign .n (.t rfl) rfl <|
                    Lex.nil) ?_
                refine run_seq ?_
                refine run_region (q_move .n (.t rfl) rfl <|
                    q_move .n (.t rfl) rfl <|
                    q_nilc_ro .n (.t rfl) rfl <|
                    q_fld_ro .n (.t rfl) fo_37_2 rfl <|
                    q_ld1_ro .n (.t rfl) rfl ic_2 rfl <|
                    q_call0 (full := false) .n .f en_77 (.cons (.t rfl) (.cons (.t rfl) .nil)) (.cons (.b (.a (.same rfl))) (.cons (.b (.a (.same rfl))) .nil)) (fun hg => c_spec_l19Walk (at' m_.Airways x3.1) c_.Speed (by first | omega | assumption | (simp only [List.length_append, List.length_cons, List.length_nil, List.length_replicate, put_len] at * <;> omega) | ((simp only [go_len, put_len] at * <;> omega)) | ((have hw0 := hp1.at (i := x3.1) (by omega); unfold AirIn at hw0; (try simp only [go_len] at *); omega)))) rfl (fun h => Bool.noConfusion h) rfl <|
                    q_assign .n (.t rfl) rfl <|
                    Lex.nil) ?_
                refine run_seq ?_
                refine run_draw fmo (q_move .n (.t rfl) rfl <|
                    q_move .n (.t rfl) rfl <|
                    q_move .n (.t rfl) rfl <|
                    q_nilc_ro .n (.t rfl) rfl <|
                    q_fld_ro .n (.t rfl) fo_128_1 rfl <|
                    q_ld1_ro .n (.t rfl) rfl ic_2 rfl <|
                    q_move .n (.t rfl) rfl <|
                    q_nilc_ro .n (.t rfl) rfl <|
                    q_fld_ro .n (.t rfl) fo_128_2 rfl <|
                    q_ld1_ro .n (.t rfl) rfl ic_2 rfl <|
                    q_move .n (.t rfl) rfl <|
                    q_callM (full := false) [(1, 200)] [] .n rfl .f en_78 (.cons (.t rfl) (.cons (.t rfl) (.cons (.t rfl) (.cons (.t rfl) (.cons (.t rfl) .nil))))) (.cons (.b (.a (.same rfl))) (.cons (.b (muts_len rfl (by first | rfl | exact go_len _ _ _ _ _))) (.cons (.b (.a (.same rfl))) (.cons (.b (.a (.same rfl))) (.cons (.b (.a (.same rfl))) .nil))))) (c_spec_l19Go arrivals x3.2 (at' m_.Airways x3.1).From (at' m_.Airways x3.1).To (m_spec_l19Walk (at' m_.Airways x3.1) c_.Speed) (by first | omega | assumption | (simp only [List.length_append, List.length_cons, List.length_nil, List.length_replicate, put_len] at * <;> omega) | ((simp only [go_len, put_len] at * <;> omega)) | ((have hw0 := hp1.at (i := x3.1) (by omega); unfold AirIn at hw0; (try simp only [go_len] at *); omega))) (by first | omega | assumption | (simp only [List.length_append, List.length_cons, List.length_nil, List.length_replicate, put_len] at * <;> omega) | ((simp only [go_len, put_len] at * <;> omega)) | ((have hw0 := hp1.at (i := x3.1) (by omega); unfold AirIn at hw0; (try simp only [go_len] at *); omega))) (by first | omega | assumption | (simp only [List.length_append, List.length_cons, List.length_nil, List.length_replicate, put_len] at * <;> omega) | ((simp only [go_len, put_len] at * <;> omega)) | ((have hw0 := hp1.at (i := x3.1) (by omega); unfold AirIn at hw0; (try simp only [go_len] at *); omega)))) ⟨rfl, trivial⟩ rfl rfl (fun h => Bool.noConfusion h) (fun h => Bool.noConfusion h) rfl <|
                    Lex.nil) (by kernel_rfl) ?_
                refine run_draw fmo (q_move .n (.t rfl) rfl <|
                    q_move .n (.t rfl) rfl <|
                    q_move .n (.t rfl) rfl <|
                    q_nilc_ro .n (.t rfl) rfl <|
                    q_fld_ro .n (.t rfl) fo_128_2 rfl <|
                    q_ld1_ro .n (.t rfl) rfl ic_2 rfl <|
                    q_move .n (.t rfl) rfl <|
                    q_nilc_ro .n (.t rfl) rfl <|
                    q_fld_ro .n (.t rfl) fo_128_1 rfl <|
                    q_ld1_ro .n (.t rfl) rfl ic_2 rfl <|
                    q_move .n (.t rfl) rfl <|
                    q_callM (full := false) [(1, 200)] [] .n rfl .f en_78 (.cons (.t rfl) (.cons (.t rfl) (.cons (.t rfl) (.cons (.t rfl) (.cons (.t rfl) .nil))))) (.cons (.b (.a (.same rfl))) (.cons (.b (muts_len rfl (by first | rfl | exact go_len _ _ _ _ _))) (.cons (.b (.a (.same rfl))) (.cons (.b (.a (.same rfl))) (.cons (.b (.a (.same rfl))) .nil))))) (c_spec_l19Go arrivals (m_spec_l19Go arrivals x3.2 (at' m_.Airways x3.1).From (at' m_.Airways x3.1).To (m_spec_l19Walk (at' m_.Airways x3.1) c_.Speed)) (at' m_.Airways x3.1).To (at' m_.Airways x3.1).From (m_spec_l19Walk (at' m_.Airways x3.1) c_.Speed) (by first | omega | assumption | (simp only [List.length_append, List.length_cons, List.length_nil, List.length_replicate, put_len] at * <;> omega) | ((simp only [go_len, put_len] at * <;> omega)) | ((have hw0 := hp1.at (i := x3.1) (by omega); unfold AirIn at hw0; (try simp only [go_len] at *); omega))) (by first | omega | assumption | (simp only [List.length_append, List.length_cons, List.length_nil, List.length_replicate, put_len] at * <;> omega) | ((simp only [go_len, put_len] at * <;> omega)) | ((have hw0 := hp1.at (i := x3.1) (by omega); unfold AirIn at hw0; (try simp only [go_len] at *); omega))) (by first | omega | assumption | (simp only [List.length_append, List.length_cons, List.length_nil, List.length_replicate, put_len] at * <;> omega) | ((simp only [go_len, put_len] at * <;> omega)) | ((have hw0 := hp1.at (i := x3.1) (by omega); unfold AirIn at hw0; (try simp only [go_len] at *); omega)))) ⟨rfl, trivial⟩ rfl rfl (fun h => Bool.noConfusion h) (fun h => Bool.noConfusion h) rfl <|
                    Lex.nil) (by kernel_rfl) ?_
                refine run_endB ?_
                refine run_region (q_move .n (.t rfl) rfl <|
                    q_add .n (.t rfl) (.c rfl) (fun _ => by first | omega | assumption | (simp only [List.length_append, List.length_cons, List.length_nil, List.length_replicate, put_len] at * <;> omega) | ((simp only [go_len, put_len] at * <;> omega)) | ((have hw0 := hp1.at (i := x3.1) (by omega); unfold AirIn at hw0; (try simp only [go_len] at *); omega))) rfl <|
                    q_assign .n (.t rfl) rfl <|
                    Lex.nil) ?_
                exact run_again (x3.1 + 1, m_spec_l19Go arrivals (m_spec_l19Go arrivals x3.2 (at' m_.Airways x3.1).From (at' m_.Airways x3.1).To (m_spec_l19Walk (at' m_.Airways x3.1) c_.Speed)) (at' m_.Airways x3.1).To (at' m_.Airways x3.1).From (m_spec_l19Walk (at' m_.Airways x3.1) c_.Speed)) ⟨by first | omega | assumption | (simp only [List.length_append, List.length_cons, List.length_nil, List.length_replicate, put_len] at * <;> omega) | ((simp only [go_len, put_len] at * <;> omega)) | ((have hw0 := hp1.at (i := x3.1) (by omega); unfold AirIn at hw0; (try simp only [go_len] at *); omega)), by first | omega | assumption | (simp only [List.length_append, List.length_cons, List.length_nil, List.length_replicate, put_len] at * <;> omega) | ((simp only [go_len, put_len] at * <;> omega)) | ((have hw0 := hp1.at (i := x3.1) (by omega); unfold AirIn at hw0; (try simp only [go_len] at *); omega)), by first | omega | assumption | (simp only [List.length_append, List.length_cons, List.length_nil, List.length_replicate, put_len] at * <;> omega) | ((simp only [go_len, put_len] at * <;> omega)) | ((have hw0 := hp1.at (i := x3.1) (by omega); unfold AirIn at hw0; (try simp only [go_len] at *); omega))⟩ (by first | omega | assumption | (simp only [List.length_append, List.length_cons, List.length_nil, List.length_replicate, put_len] at * <;> omega) | ((simp only [go_len, put_len] at * <;> omega)) | ((have hw0 := hp1.at (i := x3.1) (by omega); unfold AirIn at hw0; (try simp only [go_len] at *); omega))) (sub_of [] ⟨rfl, rfl, rfl, rfl, os_len rfl (by first | (simp only [put_len]; done) | (first | omega | assumption | (simp only [List.length_append, List.length_cons, List.length_nil, List.length_replicate, put_len] at * <;> omega) | ((simp only [go_len, put_len] at * <;> omega)) | ((have hw0 := hp1.at (i := x3.1) (by omega); unfold AirIn at hw0; (try simp only [go_len] at *); omega)))), rfl, rfl, trivial⟩ ⟨rfl, trivial⟩ rfl)
            · try simp only [Bool.and_eq_true, Bool.or_eq_true, Bool.not_eq_true', Bool.and_eq_false_iff, Bool.or_eq_false_iff, Bool.not_eq_false', decide_eq_true_eq, decide_eq_false_iff_not, beq_iff_eq, bne_iff_ne, beq_eq_false_iff_ne, bne_eq_false_iff_eq, Bool.true_and, ne_eq, Decidable.not_not, Int.not_lt, Int.not_le, Nat.not_lt, Nat.not_le, strB_nil, strB_nil', strB_nnil, strB_nnil'] at h13
              refine run_exit rfl ?_
              exact run_cont hk11 (x3.1, x3.2) ⟨by first | omega | assumption | (simp only [List.length_append, List.length_cons, List.length_nil, List.length_replicate, put_len] at * <;> omega) | ((simp only [go_len, put_len] at * <;> omega)) | ((have hw0 := hp1.at (i := x3.1) (by omega); unfold AirIn at hw0; (try simp only [go_len] at *); omega)), by first | omega | assumption | (simp only [List.length_append, List.length_cons, List.length_nil, List.length_replicate, put_len] at * <;> omega) | ((simp only [go_len, put_len] at * <;> omega)) | ((have hw0 := hp1.at (i := x3.1) (by omega); unfold AirIn at hw0; (try simp only [go_len] at *); omega)), by first | omega | assumption | (simp only [List.length_append, List.length_cons, List.length_nil, List.length_replicate, put_len] at * <;> omega) | ((simp only [go_len, put_len] at * <;> omega)) | ((have hw0 := hp1.at (i := x3.1) (by omega); unfold AirIn at hw0; (try simp only [go_len] at *); omega)), by first | omega | assumption | (simp only [List.length_append, List.length_cons, List.length_nil, List.length_replicate, put_len] at * <;> omega) | ((simp only [go_len, put_len] at * <;> omega)) | ((have hw0 := hp1.at (i := x3.1) (by omega); unfold AirIn at hw0; (try simp only [go_len] at *); omega))⟩ (sub_of [] ⟨rfl, rfl, rfl, rfl, rfl, rfl, trivial⟩ ⟨rfl, trivial⟩ rfl)
        · try simp only [Bool.and_eq_true, Bool.or_eq_true, Bool.not_eq_true', Bool.and_eq_false_iff, Bool.or_eq_false_iff, Bool.not_eq_false', decide_eq_true_eq, decide_eq_false_iff_not, beq_iff_eq, bne_iff_ne, beq_eq_false_iff_ne, bne_eq_false_iff_eq, Bool.true_and, ne_eq, Decidable.not_not, Int.not_lt, Int.not_le, Nat.not_lt, Nat.not_le, strB_nil, strB_nil', strB_nnil, strB_nnil'] at h10
          refine run_exit rfl ?_
          exact run_cont hk8 (x2.1, x2.2) ⟨by first | omega | assumption | (simp only [List.length_append, List.length_cons, List.length_nil, List.length_replicate, put_len] at * <;> omega) | ((simp only [go_len, put_len] at * <;> omega)) | ((have hw0 := hp1.at (i := x3.1) (by omega); unfold AirIn at hw0; (try simp only [go_len] at *); omega)), by first | omega | assumption | (simp only [List.length_append, List.length_cons, List.length_nil, List.length_replicate, put_len] at * <;> omega) | ((simp only [go_len, put_len] at * <;> omega)) | ((have hw0 := hp1.at (i := x3.1) (by omega); unfold AirIn at hw0; (try simp only [go_len] at *); omega)), by first | omega | assumption | (simp only [List.length_append, List.length_cons, List.length_nil, List.length_replicate, put_len] at * <;> omega) | ((simp only [go_len, put_len] at * <;> omega)) | ((have hw0 := hp1.at (i := x3.1) (by omega); unfold AirIn at hw0; (try simp only [go_len] at *); omega)), by first | omega | assumption | (simp only [List.length_append, List.length_cons, List.length_nil, List.length_replicate, put_len] at * <;> omega) | ((simp only [go_len, put_len] at * <;> omega)) | ((have hw0 := hp1.at (i := x3.1) (by omega); unfold AirIn at hw0; (try simp only [go_len] at *); omega))⟩ (sub_of [] ⟨rfl, trivial⟩ ⟨rfl, trivial⟩ rfl)
  · intro rec1 k1 hk3 x1 i4
    obtain ⟨e36, e37, e38, e39⟩ := i4
    try dsimp only at *
    refine run_seq ?_
    refine run_seq ?_
    refine run_region (q_move .n (.t rfl) rfl <|
        q_move .n (.t rfl) rfl <|
        q_nilc_ro .n (.t rfl) rfl <|
        q_fld_ro .n (.t rfl) fo_34_0 rfl <|
        q_ld1_ro .n (.t rfl) rfl ic_2 rfl <|
        q_int .n (.t rfl) (.t rfl) rfl rfl <|
        Lex.nil) ?_
    refine run_cond (.t rfl) rfl (fun h5 => ?_) (fun h5 => ?_)
    · try simp only [Bool.and_eq_true, Bool.or_eq_true, Bool.not_eq_true', Bool.and_eq_false_iff, Bool.or_eq_false_iff, Bool.not_eq_false', decide_eq_true_eq, decide_eq_false_iff_not, beq_iff_eq, bne_iff_ne, beq_eq_false_iff_ne, bne_eq_false_iff_eq, Bool.true_and, ne_eq, Decidable.not_not, Int.not_lt, Int.not_le, Nat.not_lt, Nat.not_le, strB_nil, strB_nil', strB_nnil, strB_nnil'] at h5
      refine run_skip ?_
      refine run_seq ?_
      refine run_block ?_
      refine run_region (q_move .n (.t rfl) rfl <|
          q_bslicem ([(-1)] : List Int) (f := V.int .i64) (l := 201) .n rfl rfl (.cons (.c rfl) .nil) rfl si_25 zv_2 rfl rfl rfl <|
          q_appm (xs := x1.1) (ys := ([(-1)] : List Int)) (f := V.int .i64) (l := 202) .n rfl (.ow (.t rfl) rfl (take_all (by simp only [len_map, put_len] <;> rfl)) (by simp only [len_map, put_len] <;> rfl)) (.ow (.t rfl) rfl (take_all (by simp only [len_map, put_len] <;> rfl)) (by simp only [len_map, put_len] <;> rfl)) si_25 zv_2 rfl (by first | omega | assumption | (simp only [List.length_append, List.length_cons, List.length_nil, List.length_replicate, put_len] at * <;> omega) | ((simp only [go_len, put_len] at * <;> omega)) | ((have hw0 := hp1.at (i := x3.1) (by omega); unfold AirIn at hw0; (try simp only [go_len] at *); omega))) rfl rfl <|
          q_assign .n (.t rfl) rfl <|
          Lex.nil) ?_
      refine run_endB ?_
      refine run_region (q_move .n (.t rfl) rfl <|
          q_add .n (.t rfl) (.c rfl) (fun _ => by first | omega | assumption | (simp only [List.length_append, List.length_cons, List.length_nil, List.length_replicate, put_len] at * <;> omega) | ((simp only [go_len, put_len] at * <;> omega)) | ((have hw0 := hp1.at (i := x3.1) (by omega); unfold AirIn at hw0; (try simp only [go_len] at *); omega))) rfl <|
          q_assign .n (.t rfl) rfl <|
          Lex.nil) ?_
      exact run_again (x1.1 ++ ([(-1)] : List Int), x1.2 + 1) ⟨by first | omega | assumption | (simp only [List.length_append, List.length_cons, List.length_nil, List.length_replicate, put_len] at * <;> omega) | ((simp only [go_len, put_len] at * <;> omega)) | ((have hw0 := hp1.at (i := x3.1) (by omega); unfold AirIn at hw0; (try simp only [go_len] at *); omega)), by first | omega | assumption | (simp only [List.length_append, List.length_cons, List.length_nil, List.length_replicate, put_len] at * <;> omega) | ((simp only [go_len, put_len] at * <;> omega)) | ((have hw0 := hp1.at (i := x3.1) (by omega); unfold AirIn at hw0; (try simp only [go_len] at *); omega)), by first | omega | assumption | (simp only [List.length_append, List.length_cons, List.length_nil, List.length_replicate, put_len] at * <;> omega) | ((simp only [go_len, put_len] at * <;> omega)) | ((have hw0 := hp1.at (i := x3.1) (by omega); unfold AirIn at hw0; (try simp only [go_len] at *); omega)), by first | omega | assumption | (simp only [List.length_append, List.length_cons, List.length_nil, List.length_replicate, put_len] at * <;> omega) | ((simp only [go_len, put_len] at * <;> omega)) | ((have hw0 := hp1.at (i := x3.1) (by omega); unfold AirIn at hw0; (try simp only [go_len] at *); omega))⟩ (by first | omega | assumption | (simp only [List.length_append, List.length_cons, List.length_nil, List.length_replicate, put_len] at * <;> omega) | ((simp only [go_len, put_len] at * <;> omega)) | ((have hw0 := hp1.at (i := x3.1) (by omega); unfold AirIn at hw0; (try simp only [go_len] at *); omega))) (sub_of [(200, 202)] ⟨rfl, rfl, rfl, rfl, rfl, rfl, rfl, trivial⟩ ⟨rfl, trivial⟩ rfl)
    · try simp only [Bool.and_eq_true, Bool.or_eq_true, Bool.not_eq_true', Bool.and_eq_false_iff, Bool.or_eq_false_iff, Bool.not_eq_false', decide_eq_true_eq, decide_eq_false_iff_not, beq_iff_eq, bne_iff_ne, beq_eq_false_iff_ne, bne_eq_false_iff_eq, Bool.true_and, ne_eq, Decidable.not_not, Int.not_lt, Int.not_le, Nat.not_lt, Nat.not_le, strB_nil, strB_nil', strB_nnil, strB_nnil'] at h5
      refine run_exit rfl ?_
      exact run_cont hk3 (x1.1, x1.2) ⟨by first | omega | assumption | (simp only [List.length_append, List.length_cons, List.length_nil, List.length_replicate, put_len] at * <;> omega) | ((simp only [go_len, put_len] at * <;> omega)) | ((have hw0 := hp1.at (i := x3.1) (by omega); unfold AirIn at hw0; (try simp only [go_len] at *); omega)), by first | omega | assumption | (simp only [List.length_append, List.length_cons, List.length_nil, List.length_replicate, put_len] at * <;> omega) | ((simp only [go_len, put_len] at * <;> omega)) | ((have hw0 := hp1.at (i := x3.1) (by omega); unfold AirIn at hw0; (try simp only [go_len] at *); omega)), by first | omega | assumption | (simp only [List.length_append, List.length_cons, List.length_nil, List.length_replicate, put_len] at * <;> omega) | ((simp only [go_len, put_len] at * <;> omega)) | ((have hw0 := hp1.at (i := x3.1) (by omega); unfold AirIn at hw0; (try simp only [go_len] at *); omega)), by first | omega | assumption | (simp only [List.length_append, List.length_cons, List.length_nil, List.length_replicate, put_len] at * <;> omega) | ((simp only [go_len, put_len] at * <;> omega)) | ((have hw0 := hp1.at (i := x3.1) (by omega); unfold AirIn at hw0; (try simp only [go_len] at *); omega)), by first | omega | assumption | (simp only [List.length_append, List.length_cons, List.length_nil, List.length_replicate, put_len] at * <;> omega) | ((simp only [go_len, put_len] at * <;> omega)) | ((have hw0 := hp1.at (i := x3.1) (by omega); unfold AirIn at hw0; (try simp only [go_len] at *); omega))⟩ (sub_of [] ⟨rfl, rfl, rfl, rfl, rfl, rfl, trivial⟩ ⟨rfl, trivial⟩ rfl)

/-! ### spec_LastStart -/
theorem c_spec_LastStart (m_ : gMine) (arrivals : List Int) (blocked : Int) (c_ : gCrew) (exits : List Int) : Con Try.prog 9 [.st [.int .i64 m_.Junctions, .sl 7 (m_.Airways.map gAirway.v)], .sl 1 (arrivals.map (V.int .i64)), .int .i64 blocked, .st [.str c_.Id, .int .i64 c_.Junction, .int .i64 c_.Speed], .sl 1 (exits.map (V.int .i64))] [] (.tup [.int .i64 (m_spec_LastStart m_ arrivals blocked c_ exits).1, .int .i64 (m_spec_LastStart m_ arrivals blocked c_ exits).2]) ([]) := by
  refine con_intro (out := fun r : Int × Int => ((.tup [.int .i64 r.1, .int .i64 r.2] : V), ([] : List (Nat × Option O)))) (r := (m_spec_LastStart m_ arrivals blocked c_ exits)) Try.func9 rfl Try.ntmps9 rfl ?_
  refine run_factS (t := 0) 1 rfl rfl fun hl => ?_
  have l1 := hl; clear hl; simp only [List.length_map] at l1
  refine run_fact (t := 1) rfl fun hl => ?_
  have l2 := hl; clear hl; simp only [List.length_map] at l2
  refine run_fact (t := 4) rfl fun hl => ?_
  have l3 := hl; clear hl; simp only [List.length_map] at l3
  refine run_seq ?_
  refine run_region (q_box (l := 200) .n rfl (.t rfl) rfl rfl rfl rfl <|
      q_box (l := 201) .n rfl (.t rfl) rfl rfl rfl rfl <|
      q_assign .n (.c rfl) rfl <|
      q_assign .n (.c rfl) rfl <|
      Lex.nil) ?_
  refine run_seq ?_
  refine run_region (q_move .n (.t rfl) rfl <|
      q_move .n (.t rfl) rfl <|
      q_call0 (full := true) .n .f en_34 (.cons (.t rfl) (.cons (.t rfl) (.cons (.t rfl) (.cons (.t rfl) (.cons (.c rfl) .nil))))) (.cons (.b (.ptr rfl rfl (.inr rfl) rfl rfl (.cons (.same rfl) (.cons (.same rfl) .nil)))) (.cons (.b (.a (.same rfl))) (.cons (.b (.a (.same rfl))) (.cons (.b (.ptr rfl rfl (.inr rfl) rfl rfl (.cons (.same rfl) (.cons (.same rfl) (.cons (.same rfl) .nil))))) (.cons (.b (.a (.same rfl))) .nil))))) (fun hg => c_spec_l19Ask m_ arrivals blocked c_ 0) rfl (fun _ => rfl) rfl <|
      q_assign .n (.t rfl) rfl <|
      Lex.nil) ?_
  refine run_seq ?_
  refine run_seq ?_
  refine run_region (q_move .n (.t rfl) rfl <|
      q_int .n (.t rfl) (.c rfl) rfl rfl <|
      Lex.nil) ?_
  refine run_cond (.t rfl) rfl (fun h4 => ?_) (fun h4 => ?_)
  · try simp only [Bool.and_eq_true, Bool.or_eq_true, Bool.not_eq_true', Bool.and_eq_false_iff, Bool.or_eq_false_iff, Bool.not_eq_false', decide_eq_true_eq, decide_eq_false_iff_not, beq_iff_eq, bne_iff_ne, beq_eq_false_iff_ne, bne_eq_false_iff_eq, Bool.true_and, ne_eq, Decidable.not_not, Int.not_lt, Int.not_le, Nat.not_lt, Nat.not_le, strB_nil, strB_nil', strB_nnil, strB_nnil'] at h4
    try have hf0h4 := l19Ask_impM h4
    try have hf1h4 := l19Ask_impM h4.1
    try have hf2h4 := l19Ask_impM h4.2
    try have hf3h4 := l19Ask_impM h4.1.1
    try have hf4h4 := l19Ask_impM h4.1.2
    try have hf5h4 := l19Ask_impM h4.2.1
    try have hf6h4 := l19Ask_impM h4.2.2
    try have hf7h4 := l19Ask_impC h4
    try have hf8h4 := l19Ask_impC h4.1
    try have hf9h4 := l19Ask_impC h4.2
    try have hf10h4 := l19Ask_impC h4.1.1
    try have hf11h4 := l19Ask_impC h4.1.2
    try have hf12h4 := l19Ask_impC h4.2.1
    try have hf13h4 := l19Ask_impC h4.2.2
    try have hf14h4 := l19Ask_impS h4
    try have hf15h4 := l19Ask_impS h4.1
    try have hf16h4 := l19Ask_impS h4.2
    try have hf17h4 := l19Ask_impS h4.1.1
    try have hf18h4 := l19Ask_impS h4.1.2
    try have hf19h4 := l19Ask_impS h4.2.1
    try have hf20h4 := l19Ask_impS h4.2.2
    try have hf21h4 := l19Ask_impL h4
    try have hf22h4 := l19Ask_impL h4.1
    try have hf23h4 := l19Ask_impL h4.2
    try have hf24h4 := l19Ask_impL h4.1.1
    try have hf25h4 := l19Ask_impL h4.1.2
    try have hf26h4 := l19Ask_impL h4.2.1
    try have hf27h4 := l19Ask_impL h4.2.2
    refine run_seq ?_
    refine run_region (q_move .n (.t rfl) rfl <|
        q_assign .n (.c rfl) rfl <|
        q_assign .n (.t rfl) rfl <|
        Lex.nil) ?_
    exact run_ret [] (.cons (.t rfl rfl) (.cons (.t rfl rfl) .nil)) rfl trivial rfl
  · try simp only [Bool.and_eq_true, Bool.or_eq_true, Bool.not_eq_true', Bool.and_eq_false_iff, Bool.or_eq_false_iff, Bool.not_eq_false', decide_eq_true_eq, decide_eq_false_iff_not, beq_iff_eq, bne_iff_ne, beq_eq_false_iff_ne, bne_eq_false_iff_eq, Bool.true_and, ne_eq, Decidable.not_not, Int.not_lt, Int.not_le, Nat.not_lt, Nat.not_le, strB_nil, strB_nil', strB_nnil, strB_nnil'] at h4
    try have hf0h4 := l19Ask_impM h4
    try have hf1h4 := l19Ask_impM h4.1
    try have hf2h4 := l19Ask_impM h4.2
    try have hf3h4 := l19Ask_impM h4.1.1
    try have hf4h4 := l19Ask_impM h4.1.2
    try have hf5h4 := l19Ask_impM h4.2.1
    try have hf6h4 := l19Ask_impM h4.2.2
    try have hf7h4 := l19Ask_impC h4
    try have hf8h4 := l19Ask_impC h4.1
    try have hf9h4 := l19Ask_impC h4.2
    try have hf10h4 := l19Ask_impC h4.1.1
    try have hf11h4 := l19Ask_impC h4.1.2
    try have hf12h4 := l19Ask_impC h4.2.1
    try have hf13h4 := l19Ask_impC h4.2.2
    try have hf14h4 := l19Ask_impS h4
    try have hf15h4 := l19Ask_impS h4.1
    try have hf16h4 := l19Ask_impS h4.2
    try have hf17h4 := l19Ask_impS h4.1.1
    try have hf18h4 := l19Ask_impS h4.1.2
    try have hf19h4 := l19Ask_impS h4.2.1
    try have hf20h4 := l19Ask_impS h4.2.2
    try have hf21h4 := l19Ask_impL h4
    try have hf22h4 := l19Ask_impL h4.1
    try have hf23h4 := l19Ask_impL h4.2
    try have hf24h4 := l19Ask_impL h4.1.1
    try have hf25h4 := l19Ask_impL h4.1.2
    try have hf26h4 := l19Ask_impL h4.2.1
    try have hf27h4 := l19Ask_impL h4.2.2
    refine run_skip ?_
    refine run_seq ?_
    refine run_seq ?_
    refine run_region (q_move .n (.t rfl) rfl <|
        q_fld_ow .n (.t rfl) fo_34_0 rfl <|
        q_ld1_ow .n (.t rfl) rfl (.inr rfl) (fun _ => rfl) rfl ic_2 rfl <|
        q_int .n (.t rfl) (.c rfl) rfl rfl <|
        q_call0 (full := false) .n .f en_35 (.cons (.t rfl) (.cons (.c rfl) (.cons (.t rfl) .nil))) (.cons (.b (.a (.same rfl))) (.cons (.b (.a (.same rfl))) (.cons (.b (.a (.same rfl))) .nil))) (fun hg => c_spec_l00Rises exits 0 (IntKind.wrap .i64 (m_.Junctions - 1))) rfl (fun h => Bool.noConfusion h) rfl <|
        q_not .n (.t rfl) rfl <|
        Lex.nil) ?_
    refine run_cond (.t rfl) rfl (fun h5 => ?_) (fun h5 => ?_)
    · try simp only [Bool.and_eq_true, Bool.or_eq_true, Bool.not_eq_true', Bool.and_eq_false_iff, Bool.or_eq_false_iff, Bool.not_eq_false', decide_eq_true_eq, decide_eq_false_iff_not, beq_iff_eq, bne_iff_ne, beq_eq_false_iff_ne, bne_eq_false_iff_eq, Bool.true_and, ne_eq, Decidable.not_not, Int.not_lt, Int.not_le, Nat.not_lt, Nat.not_le, strB_nil, strB_nil', strB_nnil, strB_nnil'] at h5
      refine run_seq ?_
      refine run_region (q_assign .n (.c rfl) rfl <|
          q_assign .n (.c rfl) rfl <|
          Lex.nil) ?_
      exact run_ret [] (.cons (.t rfl rfl) (.cons (.t rfl rfl) .nil)) rfl trivial rfl
    · try simp only [Bool.and_eq_true, Bool.or_eq_true, Bool.not_eq_true', Bool.and_eq_false_iff, Bool.or_eq_false_iff, Bool.not_eq_false', decide_eq_true_eq, decide_eq_false_iff_not, beq_iff_eq, bne_iff_ne, beq_eq_false_iff_ne, bne_eq_false_iff_eq, Bool.true_and, ne_eq, Decidable.not_not, Int.not_lt, Int.not_le, Nat.not_lt, Nat.not_le, strB_nil, strB_nil', strB_nnil, strB_nnil'] at h5
      refine run_skip ?_
      refine run_seq ?_
      refine run_seq ?_
      refine run_region (q_move .n (.t rfl) rfl <|
          q_move .n (.t rfl) rfl <|
          q_callM (full := true) [] [(100, 202)] .n rfl .f en_37 (.cons (.t rfl) (.cons (.t rfl) (.cons (.t rfl) (.cons (.t rfl) (.cons (.c rfl) .nil))))) (.cons (.b (.ptr rfl rfl (.inr rfl) rfl rfl (.cons (.same rfl) (.cons (.same rfl) .nil)))) (.cons (.b (.a (.same rfl))) (.cons (.b (.a (.same rfl))) (.cons (.b (.ptr rfl rfl (.inr rfl) rfl rfl (.cons (.same rfl) (.cons (.same rfl) (.cons (.same rfl) .nil))))) (.cons (.b (.a (.same rfl))) .nil))))) (c_spec_l19Times m_ arrivals blocked c_ 0 (by first | omega | assumption | (simp only [List.length_append, List.length_cons, List.length_nil, List.length_replicate, put_len] at * <;> omega) | (exact l19Ask_impM (by assumption)) | (exact l19Ask_impC (by assumption)) | (exact l19Ask_impS (by assumption)) | (exact l19Ask_impL (by assumption)) | ((have hm := last_mid (i := x1.1) (j := x1.2) (by omega) (by omega) (by omega); first | omega | (rw [hm]; omega) | (rw [hm]; rw [wr64 (by omega)]; omega))) | (exact rtE (l19Ask_impM (by assumption)) (l19Ask_impC (by assumption)) (by omega) (by assumption)) | ((have hm := last_mid (i := x1.1) (j := x1.2) (by omega) (by omega) (by omega); exact rtE (l19Ask_impM (by assumption)) (l19Ask_impC (by assumption)) (by omega) (by assumption)))) (by first | omega | assumption | (simp only [List.length_append, List.length_cons, List.length_nil, List.length_replicate, put_len] at * <;> omega) | (exact l19Ask_impM (by assumption)) | (exact l19Ask_impC (by assumption)) | (exact l19Ask_impS (by assumption)) | (exact l19Ask_impL (by assumption)) | ((have hm := last_mid (i := x1.1) (j := x1.2) (by omega) (by omega) (by omega); first | omega | (rw [hm]; omega) | (rw [hm]; rw [wr64 (by omega)]; omega))) | (exact rtE (l19Ask_impM (by assumption)) (l19Ask_impC (by assumption)) (by omega) (by assumption)) | ((have hm := last_mid (i := x1.1) (j := x1.2) (by omega) (by omega) (by omega); exact rtE (l19Ask_impM (by assumption)) (l19Ask_impC (by assumption)) (by omega) (by assumption)))) (by first | omega | assumption | (simp only [List.length_append, List.length_cons, List.length_nil, List.length_replicate, put_len] at * <;> omega) | (exact l19Ask_impM (by assumption)) | (exact l19Ask_impC (by assumption)) | (exact l19Ask_impS (by assumption)) | (exact l19Ask_impL (by assumption)) | ((have hm := last_mid (i := x1.1) (j := x1.2) (by omega) (by omega) (by omega); first | omega | (rw [hm]; omega) | (rw [hm]; rw [wr64 (by omega)]; omega))) | (exact rtE (l19Ask_impM (by assumption)) (l19Ask_impC (by assumption)) (by omega) (by assumption)) | ((have hm := last_mid (i := x1.1) (j := x1.2) (by omega) (by omega) (by omega); exact rtE (l19Ask_impM (by assumption)) (l19Ask_impC (by assumption)) (by omega) (by assumption)))) (by first | omega | assumption | (simp only [List.length_append, List.length_cons, List.length_nil, List.length_replicate, put_len] at * <;> omega) | (exact l19Ask_impM (by assumption)) | (exact l19Ask_impC (by assumption)) | (exact l19Ask_impS (by assumption)) | (exact l19Ask_impL (by assumption)) | ((have hm := last_mid (i := x1.1) (j := x1.2) (by omega) (by omega) (by omega); first | omega | (rw [hm]; omega) | (rw [hm]; rw [wr64 (by omega)]; omega))) | (exact rtE (l19Ask_impM (by assumption)) (l19Ask_impC (by assumption)) (by omega) (by assumption)) | ((have hm := last_mid (i := x1.1) (j := x1.2) (by omega) (by omega) (by omega); exact rtE (l19Ask_impM (by assumption)) (l19Ask_impC (by assumption)) (by omega) (by assumption))))) trivial rfl rfl (fun _ => rfl) (fun _ => (hr_row (fun _ => rfl) hr_nil)) rfl <|
          q_move .n (.t rfl) rfl <|
          q_call0 (full := true) .n .f en_36 (.cons (.t rfl) (.cons (.t rfl) .nil)) (.cons (.b (.a (.own rfl rfl rfl (take_all (by simp only [len_map, put_len] <;> rfl)) (by simp only [len_map, put_len] <;> rfl)))) (.cons (.b (.a (.same rfl))) .nil)) (fun hg => c_spec_l19Exit (m_spec_l19Times m_ arrivals blocked c_ 0) exits (by first | omega | assumption | (simp only [List.length_append, List.length_cons, List.length_nil, List.length_replicate, put_len] at * <;> omega) | (exact l19Ask_impM (by assumption)) | (exact l19Ask_impC (by assumption)) | (exact l19Ask_impS (by assumption)) | (exact l19Ask_impL (by assumption)) | ((have hm := last_mid (i := x1.1) (j := x1.2) (by omega) (by omega) (by omega); first | omega | (rw [hm]; omega) | (rw [hm]; rw [wr64 (by omega)]; omega))) | (exact rtE (l19Ask_impM (by assumption)) (l19Ask_impC (by assumption)) (by omega) (by assumption)) | ((have hm := last_mid (i := x1.1) (j := x1.2) (by omega) (by omega) (by omega); exact rtE (l19Ask_impM (by assumption)) (l19Ask_impC (by assumption)) (by omega) (by assumption))))) rfl (fun _ => rfl) rfl <|
          q_int .n (.t rfl) (.c rfl) rfl rfl <|
          Lex.nil) ?_
      refine run_cond (.t rfl) rfl (fun h6 => ?_) (fun h6 => ?_)
      · try simp only [Bool.and_eq_true, Bool.or_eq_true, Bool.not_eq_true', Bool.and_eq_false_iff, Bool.or_eq_false_iff, Bool.not_eq_false', decide_eq_true_eq, decide_eq_false_iff_not, beq_iff_eq, bne_iff_ne, beq_eq_false_iff_ne, bne_eq_false_iff_eq, Bool.true_and, ne_eq, Decidable.not_not, Int.not_lt, Int.not_le, Nat.not_lt, Nat.not_le, strB_nil, strB_nil', strB_nnil, strB_nnil'] at h6
        refine run_seq ?_
        refine run_region (q_assign .n (.c rfl) rfl <|
            q_assign .n (.c rfl) rfl <|
            Lex.nil) ?_
        exact run_ret [] (.cons (.t rfl rfl) (.cons (.t rfl rfl) .nil)) rfl trivial rfl
      · try simp only [Bool.and_eq_true, Bool.or_eq_true, Bool.not_eq_true', Bool.and_eq_false_iff, Bool.or_eq_false_iff, Bool.not_eq_false', decide_eq_true_eq, decide_eq_false_iff_not, beq_iff_eq, bne_iff_ne, beq_eq_false_iff_ne, bne_eq_false_iff_eq, Bool.true_and, ne_eq, Decidable.not_not, Int.not_lt, Int.not_le, Nat.not_lt, Nat.not_le, strB_nil, strB_nil', strB_nnil, strB_nnil'] at h6
        refine run_skip ?_
        refine run_seq ?_
        refine run_region (q_assign .n (.c rfl) rfl <|
            Lex.nil) ?_
        refine run_seq ?_
        refine run_region (q_assign .n (.c rfl) rfl <|
            Lex.nil) ?_
        refine run_seq ?_
        refine run_block ?_
        refine run_LOOP (m_spec_LastStart_b1 m_ arrivals blocked c_ exits) _ _ _ rfl (fun (x1 : Int × Int) => 0 ≤ x1.1 ∧ x1.1 ≤ x1.2 ∧ x1.2 ≤ 36000) (fun x1 => 0 ≤ x1.1 ∧ x1.1 ≤ x1.2 ∧ x1.2 ≤ 36000) (fun x1 => (x1.2 - x1.1 : Int).toNat) (fun x1 => ⟨[(1, some (true, .sl 1 (arrivals.map (V.int .i64)))), (2, some (true, .int .i64 blocked)), (4, some (true, .sl 1 (exits.map (V.int .i64)))), (5, some (true, .op 200 0 0 0)), (8, some (true, .op 201 0 0 0)), (13, some (true, .int .i64 x1.1)), (14, some (true, .int .i64 x1.2))], [(200, some (.box 34 [.int .i64 m_.Junctions, .sl 7 (m_.Airways.map gAirway.v)])), (201, some (.box 37 [.str c_.Id, .int .i64 c_.Junction, .int .i64 c_.Speed]))]⟩) (fun x1 => ⟨[(13, some (true, .int .i64 x1.1))], []⟩) (by first | omega | assumption | (simp only [List.length_append, List.length_cons, List.length_nil, List.length_replicate, put_len] at * <;> omega) | (exact l19Ask_impM (by assumption)) | (exact l19Ask_impC (by assumption)) | (exact l19Ask_impS (by assumption)) | (exact l19Ask_impL (by assumption)) | ((have hm := last_mid (i := x1.1) (j := x1.2) (by omega) (by omega) (by omega); first | omega | (rw [hm]; omega) | (rw [hm]; rw [wr64 (by omega)]; omega))) | (exact rtE (l19Ask_impM (by assumption)) (l19Ask_impC (by assumption)) (by omega) (by assumption)) | ((have hm := last_mid (i := x1.1) (j := x1.2) (by omega) (by omega) (by omega); exact rtE (l19Ask_impM (by assumption)) (l19Ask_impC (by assumption)) (by omega) (by assumption)))) (by first | omega | assumption | (simp only [List.length_append, List.length_cons, List.length_nil, List.length_replicate, put_len] at * <;> omega) | (exact l19Ask_impM (by assumption)) | (exact l19Ask_impC (by assumption)) | (exact l19Ask_impS (by assumption)) | (exact l19Ask_impL (by assumption)) | ((have hm := last_mid (i := x1.1) (j := x1.2) (by omega) (by omega) (by omega); first | omega | (rw [hm]; omega) | (rw [hm]; rw [wr64 (by omega)]; omega))) | (exact rtE (l19Ask_impM (by assumption)) (l19Ask_impC (by assumption)) (by omega) (by assumption)) | ((have hm := last_mid (i := x1.1) (j := x1.2) (by omega) (by omega) (by omega); exact rtE (l19Ask_impM (by assumption)) (l19Ask_impC (by assumption)) (by omega) (by assumption)))) (sub_of [] ⟨rfl, rfl, rfl, rfl, rfl, rfl, rfl, trivial⟩ ⟨rfl, rfl, trivial⟩ rfl) ?_ ?_
        · intro x1 i11
          have e12 := i11
          try dsimp only at *
          refine run_seq ?_
          refine run_region (q_move .n (.t rfl) rfl <|
              q_assign .n (.t rfl) rfl <|
              q_assign .n (.c rfl) rfl <|
              Lex.nil) ?_
          exact run_ret [] (.cons (.t rfl rfl) (.cons (.t rfl rfl) .nil)) rfl trivial rfl
        · intro rec1 k1 hk7 x1 i8
          have e13 := i8
          try dsimp only at *
          refine run_seq ?_
          refine run_seq ?_
          refine run_region (q_move .n (.t rfl) rfl <|
              q_move .n (.t rfl) rfl <|
              q_int .n (.t rfl) (.t rfl) rfl rfl <|
              Lex.nil) ?_
          refine run_cond (.t rfl) rfl (fun h9 => ?_) (fun h9 => ?_)
          · try simp only [Bool.and_eq_true, Bool.or_eq_true, Bool.not_eq_true', Bool.and_eq_false_iff, Bool.or_eq_false_iff, Bool.not_eq_false', decide_eq_true_eq, decide_eq_false_iff_not, beq_iff_eq, bne_iff_ne, beq_eq_false_iff_ne, bne_eq_false_iff_eq, Bool.true_and, ne_eq, Decidable.not_not, Int.not_lt, Int.not_le, Nat.not_lt, Nat.not_le, strB_nil, strB_nil', strB_nnil, strB_nnil'] at h9
            refine run_skip ?_
            refine run_block ?_
            refine run_seq ?_
            refine run_region (q_move .n (.t rfl) rfl <|
                q_move .n (.t rfl) rfl <|
                q_int .n (.t rfl) (.t rfl) rfl rfl <|
                q_int .n (.t rfl) (.c rfl) rfl rfl <|
                q_quo .n (.t rfl) (.c rfl) (fun _ => by decide) rfl <|
                q_assign .n (.t rfl) rfl <|
                Lex.nil) ?_
            refine run_seq ?_
            refine run_region (q_move .n (.t rfl) rfl <|
                q_move .n (.t rfl) rfl <|
                q_move .n (.t rfl) rfl <|
                q_callM (full := true) [] [(100, 203)] .n rfl .f en_37 (.cons (.t rfl) (.cons (.t rfl) (.cons (.t rfl) (.cons (.t rfl) (.cons (.t rfl) .nil))))) (.cons (.b (.ptr rfl rfl (.inr rfl) rfl rfl (.cons (.same rfl) (.cons (.same rfl) .nil)))) (.cons (.b (.a (.same rfl))) (.cons (.b (.a (.same rfl))) (.cons (.b (.ptr rfl rfl (.inr rfl) rfl rfl (.cons (.same rfl) (.cons (.same rfl) (.cons (.same rfl) .nil))))) (.cons (.b (.a (.same rfl))) .nil))))) (c_spec_l19Times m_ arrivals blocked c_ (IntKind.wrap .i64 (Int.tdiv (IntKind.wrap .i64 ((IntKind.wrap .i64 (x1.1 + x1.2)) + 1)) 2)) (by first | omega | assumption | (simp only [List.length_append, List.length_cons, List.length_nil, List.length_replicate, put_len] at * <;> omega) | (exact l19Ask_impM (by assumption)) | (exact l19Ask_impC (by assumption)) | (exact l19Ask_impS (by assumption)) | (exact l19Ask_impL (by assumption)) | ((have hm := last_mid (i := x1.1) (j := x1.2) (by omega) (by omega) (by omega); first | omega | (rw [hm]; omega) | (rw [hm]; rw [wr64 (by omega)]; omega))) | (exact rtE (l19Ask_impM (by assumption)) (l19Ask_impC (by assumption)) (by omega) (by assumption)) | ((have hm := last_mid (i := x1.1) (j := x1.2) (by omega) (by omega) (by omega); exact rtE (l19Ask_impM (by assumption)) (l19Ask_impC (by assumption)) (by omega) (by assumption)))) (by first | omega | assumption | (simp only [List.length_append, List.length_cons, List.length_nil, List.length_replicate, put_len] at * <;> omega) | (exact l19Ask_impM (by assumption)) | (exact l19Ask_impC (by assumption)) | (exact l19Ask_impS (by assumption)) | (exact l19Ask_impL (by assumption)) | ((have hm := last_mid (i := x1.1) (j := x1.2) (by omega) (by omega) (by omega); first | omega | (rw [hm]; omega) | (rw [hm]; rw [wr64 (by omega)]; omega))) | (exact rtE (l19Ask_impM (by assumption)) (l19Ask_impC (by assumption)) (by omega) (by assumption)) | ((have hm := last_mid (i := x1.1) (j := x1.2) (by omega) (by omega) (by omega); exact rtE (l19Ask_impM (by assumption)) (l19Ask_impC (by assumption)) (by omega) (by assumption)))) (by first | omega | assumption | (simp only [List.length_append, List.length_cons, List.length_nil, List.length_replicate, put_len] at * <;> omega) | (exact l19Ask_impM (by assumption)) | (exact l19Ask_impC (by assumption)) | (exact l19Ask_impS (by assumption)) | (exact l19Ask_impL (by assumption)) | ((have hm := last_mid (i := x1.1) (j := x1.2) (by omega) (by omega) (by omega); first | omega | (rw [hm]; omega) | (rw [hm]; rw [wr64 (by omega)]; omega))) | (exact rtE (l19Ask_impM (by assumption)) (l19Ask_impC (by assumption)) (by omega) (by assumption)) | ((have hm := last_mid (i := x1.1) (j := x1.2) (by omega) (by omega) (by omega); exact rtE (l19Ask_impM (by assumption)) (l19Ask_impC (by assumption)) (by omega) (by assumption)))) (by first | omega | assumption | (simp only [List.length_append, List.length_cons, List.length_nil, List.length_replicate, put_len] at * <;> omega) | (exact l19Ask_impM (by assumption)) | (exact l19Ask_impC (by assumption)) | (exact l19Ask_impS (by assumption)) | (exact l19Ask_impL (by assumption)) | ((have hm := last_mid (i := x1.1) (j := x1.2) (by omega) (by omega) (by omega); first | omega | (rw [hm]; omega) | (rw [hm]; rw [wr64 (by omega)]; omega))) | (exact rtE (l19Ask_impM (by assumption)) (l19Ask_impC (by assumption)) (by omega) (by assumption)) | ((have hm := last_mid (i := x1.1) (j := x1.2) (by omega) (by omega) (by omega); exact rtE (l19Ask_impM (by assumption)) (l19Ask_impC (by assumption)) (by omega) (by assumption))))) trivial rfl rfl (fun _ => rfl) (fun _ => (hr_row (fun _ => rfl) hr_nil)) rfl <|
                q_move .n (.t rfl) rfl <|
                q_call0 (full := true) .n .f en_36 (.cons (.t rfl) (.cons (.t rfl) .nil)) (.cons (.b (.a (.own rfl rfl rfl (take_all (by simp only [len_map, put_len] <;> rfl)) (by simp only [len_map, put_len] <;> rfl)))) (.cons (.b (.a (.same rfl))) .nil)) (fun hg => c_spec_l19Exit (m_spec_l19Times m_ arrivals blocked c_ (IntKind.wrap .i64 (Int.tdiv (IntKind.wrap .i64 ((IntKind.wrap .i64 (x1.1 + x1.2)) + 1)) 2))) exits (by first | omega | assumption | (simp only [List.length_append, List.length_cons, List.length_nil, List.length_replicate, put_len] at * <;> omega) | (exact l19Ask_impM (by assumption)) | (exact l19Ask_impC (by assumption)) | (exact l19Ask_impS (by assumption)) | (exact l19Ask_impL (by assumption)) | ((have hm := last_mid (i := x1.1) (j := x1.2) (by omega) (by omega) (by omega); first | omega | (rw [hm]; omega) | (rw [hm]; rw [wr64 (by omega)]; omega))) | (exact rtE (l19Ask_impM (by assumption)) (l19Ask_impC (by assumption)) (by omega) (by assumption)) | ((have hm := last_mid (i := x1.1) (j := x1.2) (by omega) (by omega) (by omega); exact rtE (l19Ask_impM (by assumption)) (l19Ask_impC (by assumption)) (by omega) (by assumption))))) rfl (fun _ => rfl) rfl <|
                q_int .n (.t rfl) (.c rfl) rfl rfl <|
                Lex.nil) ?_
            refine run_cond (.t rfl) rfl (fun h10 => ?_) (fun h10 => ?_)
            · try simp only [Bool.and_eq_true, Bool.or_eq_true, Bool.not_eq_true', Bool.and_eq_false_iff, Bool.or_eq_false_iff, Bool.not_eq_false', decide_eq_true_eq, decide_eq_false_iff_not, beq_iff_eq, bne_iff_ne, beq_eq_false_iff_ne, bne_eq_false_iff_eq, Bool.true_and, ne_eq, Decidable.not_not, Int.not_lt, Int.not_le, Nat.not_lt, Nat.not_le, strB_nil, strB_nil', strB_nnil, strB_nnil'] at h10
              refine run_region (q_move .n (.t rfl) rfl <|
                  q_assign .n (.t rfl) rfl <|
                  Lex.nil) ?_
              refine run_endB ?_
              exact run_again (IntKind.wrap .i64 (Int.tdiv (IntKind.wrap .i64 ((IntKind.wrap .i64 (x1.1 + x1.2)) + 1)) 2), x1.2) (by first | omega | assumption | (simp only [List.length_append, List.length_cons, List.length_nil, List.length_replicate, put_len] at * <;> omega) | (exact l19Ask_impM (by assumption)) | (exact l19Ask_impC (by assumption)) | (exact l19Ask_impS (by assumption)) | (exact l19Ask_impL (by assumption)) | ((have hm := last_mid (i := x1.1) (j := x1.2) (by omega) (by omega) (by omega); first | omega | (rw [hm]; omega) | (rw [hm]; rw [wr64 (by omega)]; omega))) | (exact rtE (l19Ask_impM (by assumption)) (l19Ask_impC (by assumption)) (by omega) (by assumption)) | ((have hm := last_mid (i := x1.1) (j := x1.2) (by omega) (by omega) (by omega); exact rtE (l19Ask_impM (by assumption)) (l19Ask_impC (by assumption)) (by omega) (by assumption)))) (by first | omega | assumption | (simp only [List.length_append, List.length_cons, List.length_nil, List.length_replicate, put_len] at * <;> omega) | (exact l19Ask_impM (by assumption)) | (exact l19Ask_impC (by assumption)) | (exact l19Ask_impS (by assumption)) | (exact l19Ask_impL (by assumption)) | ((have hm := last_mid (i := x1.1) (j := x1.2) (by omega) (by omega) (by omega); first | omega | (rw [hm]; omega) | (rw [hm]; rw [wr64 (by omega)]; omega))) | (exact rtE (l19Ask_impM (by assumption)) (l19Ask_impC (by assumption)) (by omega) (by assumption)) | ((have hm := last_mid (i := x1.1) (j := x1.2) (by omega) (by omega) (by omega); exact rtE (l19Ask_impM (by assumption)) (l19Ask_impC (by assumption)) (by omega) (by assumption)))) (sub_of [] ⟨rfl, rfl, rfl, rfl, rfl, rfl, rfl, trivial⟩ ⟨rfl, rfl, trivial⟩ rfl)
            · try simp only [Bool.and_eq_true, Bool.or_eq_true, Bool.not_eq_true', Bool.and_eq_false_iff, Bool.or_eq_false_iff, Bool.not_eq_false', decide_eq_true_eq, decide_eq_false_iff_not, beq_iff_eq, bne_iff_ne, beq_eq_false_iff_ne, bne_eq_false_iff_eq, Bool.true_and, ne_eq, Decidable.not_not, Int.not_lt, Int.not_le, Nat.not_lt, Nat.not_le, strB_nil, strB_nil', strB_nnil, strB_nnil'] at h10
              refine run_region (q_move .n (.t rfl) rfl <|
                  q_int .n (.t rfl) (.c rfl) rfl rfl <|
                  q_assign .n (.t rfl) rfl <|
                  Lex.nil) ?_
              refine run_endB ?_
              exact run_again (x1.1, IntKind.wrap .i64 ((IntKind.wrap .i64 (Int.tdiv (IntKind.wrap .i64 ((IntKind.wrap .i64 (x1.1 + x1.2)) + 1)) 2)) - 1)) (by first | omega | assumption | (simp only [List.length_append, List.length_cons, List.length_nil, List.length_replicate, put_len] at * <;> omega) | (exact l19Ask_impM (by assumption)) | (exact l19Ask_impC (by assumption)) | (exact l19Ask_impS (by assumption)) | (exact l19Ask_impL (by assumption)) | ((have hm := last_mid (i := x1.1) (j := x1.2) (by omega) (by omega) (by omega); first | omega | (rw [hm]; omega) | (rw [hm]; rw [wr64 (by omega)]; omega))) | (exact rtE (l19Ask_impM (by assumption)) (l19Ask_impC (by assumption)) (by omega) (by assumption)) | ((have hm := last_mid (i := x1.1) (j := x1.2) (by omega) (by omega) (by omega); exact rtE (l19Ask_impM (by assumption)) (l19Ask_impC (by assumption)) (by omega) (by assumption)))) (by first | omega | assumption | (simp only [List.length_append, List.length_cons, List.length_nil, List.length_replicate, put_len] at * <;> omega) | (exact l19Ask_impM (by assumption)) | (exact l19Ask_impC (by assumption)) | (exact l19Ask_impS (by assumption)) | (exact l19Ask_impL (by assumption)) | ((have hm := last_mid (i := x1.1) (j := x1.2) (by omega) (by omega) (by omega); first | omega | (rw [hm]; omega) | (rw [hm]; rw [wr64 (by omega)]; omega))) | (exact rtE (l19Ask_impM (by assumption)) (l19Ask_impC (by assumption)) (by omega) (by assumption)) | ((have hm := last_mid (i := x1.1) (j := x1.2) (by omega) (by omega) (by omega); exact rtE (l19Ask_impM (by assumption)) (l19Ask_impC (by assumption)) (by omega) (by assumption)))) (sub_of [] ⟨rfl, rfl, rfl, rfl, rfl, rfl, rfl, trivial⟩ ⟨rfl, rfl, trivial⟩ rfl)
          · try simp only [Bool.and_eq_true, Bool.or_eq_true, Bool.not_eq_true', Bool.and_eq_false_iff, Bool.or_eq_false_iff, Bool.not_eq_false', decide_eq_true_eq, decide_eq_false_iff_not, beq_iff_eq, bne_iff_ne, beq_eq_false_iff_ne, bne_eq_false_iff_eq, Bool.true_and, ne_eq, Decidable.not_not, Int.not_lt, Int.not_le, Nat.not_lt, Nat.not_le, strB_nil, strB_nil', strB_nnil, strB_nnil'] at h9
            refine run_exit rfl ?_
            exact run_cont hk7 (x1.1, x1.2) (by first | omega | assumption | (simp only [List.length_append, List.length_cons, List.length_nil, List.length_replicate, put_len] at * <;> omega) | (exact l19Ask_impM (by assumption)) | (exact l19Ask_impC (by assumption)) | (exact l19Ask_impS (by assumption)) | (exact l19Ask_impL (by assumption)) | ((have hm := last_mid (i := x1.1) (j := x1.2) (by omega) (by omega) (by omega); first | omega | (rw [hm]; omega) | (rw [hm]; rw [wr64 (by omega)]; omega))) | (exact rtE (l19Ask_impM (by assumption)) (l19Ask_impC (by assumption)) (by omega) (by assumption)) | ((have hm := last_mid (i := x1.1) (j := x1.2) (by omega) (by omega) (by omega); exact rtE (l19Ask_impM (by assumption)) (l19Ask_impC (by assumption)) (by omega) (by assumption)))) (sub_of [] ⟨rfl, trivial⟩ trivial rfl)

/-! ### laws_toAirway -/
theorem c_laws_toAirway (a : gAirway) : Con Try.prog 79 [.st [.str a.Id, .int .i64 a.From, .int .i64 a.To, .int .i64 a.Length, .int .i64 a.Section, .int .i64 a.Friction, .int .i64 a.Shock]] [] (.st [.str (m_laws_toAirway a).Id, .int .i64 (m_laws_toAirway a).From, .int .i64 (m_laws_toAirway a).To, .int .i64 (m_laws_toAirway a).Length, .int .i64 (m_laws_toAirway a).Section, .int .i64 (m_laws_toAirway a).Friction, .int .i64 (m_laws_toAirway a).Shock]) ([]) := by
  refine con_intro (out := fun r : gAirway => ((.st [.str r.Id, .int .i64 r.From, .int .i64 r.To, .int .i64 r.Length, .int .i64 r.Section, .int .i64 r.Friction, .int .i64 r.Shock] : V), ([] : List (Nat × Option O)))) (r := (m_laws_toAirway a)) Try.func79 rfl Try.ntmps79 rfl ?_
  refine run_seq ?_
  refine run_region (q_box (l := 200) .n rfl (.t rfl) rfl rfl rfl rfl <|
      q_alloc (l := 201) .n rfl zv_128 rfl rfl <|
      Lex.nil) ?_
  refine run_seq ?_
  refine run_region (q_alloc (l := 202) .n rfl zv_128 rfl rfl <|
      Lex.nil) ?_
  refine run_seq ?_
  refine run_region (q_fld_ow .n (.t rfl) fo_123_0 rfl <|
      q_ld1_ow .n (.t rfl) rfl (.inr rfl) (fun _ => rfl) rfl ic_9 rfl <|
      q_fld_ow .n (.t rfl) fo_128_0 rfl <|
      q_st_boxm [.str a.Id, .int .i64 0, .int .i64 0, .int .i64 0, .int .i64 0, .int .i64 0, .int .i64 0] .n rfl (.t rfl) (.t rfl) rfl ts_9 rfl rfl <|
      Lex.nil) ?_
  refine run_seq ?_
  refine run_region (q_fld_ow .n (.t rfl) fo_123_1 rfl <|
      q_ld1_ow .n (.t rfl) rfl (.inr rfl) (fun _ => rfl) rfl ic_2 rfl <|
      q_fld_ow .n (.t rfl) fo_128_1 rfl <|
      q_st_boxm [.str a.Id, .int .i64 a.From, .int .i64 0, .int .i64 0, .int .i64 0, .int .i64 0, .int .i64 0] .n rfl (.t rfl) (.t rfl) rfl ts_2 rfl rfl <|
      Lex.nil) ?_
  refine run_seq ?_
  refine run_region (q_fld_ow .n (.t rfl) fo_123_2 rfl <|
      q_ld1_ow .n (.t rfl) rfl (.inr rfl) (fun _ => rfl) rfl ic_2 rfl <|
      q_fld_ow .n (.t rfl) fo_128_2 rfl <|
      q_st_boxm [.str a.Id, .int .i64 a.From, .int .i64 a.To, .int .i64 0, .int .i64 0, .int .i64 0, .int .i64 0] .n rfl (.t rfl) (.t rfl) rfl ts_2 rfl rfl <|
      Lex.nil) ?_
  refine run_seq ?_
  refine run_region (q_fld_ow .n (.t rfl) fo_123_3 rfl <|
      q_ld1_ow .n (.t rfl) rfl (.inr rfl) (fun _ => rfl) rfl ic_2 rfl <|
      q_fld_ow .n (.t rfl) fo_128_3 rfl <|
      q_st_boxm [.str a.Id, .int .i64 a.From, .int .i64 a.To, .int .i64 a.Length, .int .i64 0, .int .i64 0, .int .i64 0] .n rfl (.t rfl) (.t rfl) rfl ts_2 rfl rfl <|
      Lex.nil) ?_
  refine run_seq ?_
  refine run_region (q_fld_ow .n (.t rfl) fo_123_4 rfl <|
      q_ld1_ow .n (.t rfl) rfl (.inr rfl) (fun _ => rfl) rfl ic_2 rfl <|
      q_fld_ow .n (.t rfl) fo_128_4 rfl <|
      q_st_boxm [.str a.Id, .int .i64 a.From, .int .i64 a.To, .int .i64 a.Length, .int .i64 a.Section, .int .i64 0, .int .i64 0] .n rfl (.t rfl) (.t rfl) rfl ts_2 rfl rfl <|
      Lex.nil) ?_
  refine run_seq ?_
  refine run_region (q_fld_ow .n (.t rfl) fo_123_5 rfl <|
      q_ld1_ow .n (.t rfl) rfl (.inr rfl) (fun _ => rfl) rfl ic_2 rfl <|
      q_fld_ow .n (.t rfl) fo_128_5 rfl <|
      q_st_boxm [.str a.Id, .int .i64 a.From, .int .i64 a.To, .int .i64 a.Length, .int .i64 a.Section, .int .i64 a.Friction, .int .i64 0] .n rfl (.t rfl) (.t rfl) rfl ts_2 rfl rfl <|
      Lex.nil) ?_
  refine run_seq ?_
  refine run_region (q_fld_ow .n (.t rfl) fo_123_6 rfl <|
      q_ld1_ow .n (.t rfl) rfl (.inr rfl) (fun _ => rfl) rfl ic_2 rfl <|
      q_fld_ow .n (.t rfl) fo_128_6 rfl <|
      q_st_boxm [.str a.Id, .int .i64 a.From, .int .i64 a.To, .int .i64 a.Length, .int .i64 a.Section, .int .i64 a.Friction, .int .i64 a.Shock] .n rfl (.t rfl) (.t rfl) rfl ts_2 rfl rfl <|
      Lex.nil) ?_
  refine run_seq ?_
  refine run_region (q_ldN_ow .n (.t rfl) rfl (.inr rfl) ag_128 (fun _ => rfl) rfl rfl <|
      q_st_boxm [.str a.Id, .int .i64 a.From, .int .i64 a.To, .int .i64 a.Length, .int .i64 a.Section, .int .i64 a.Friction, .int .i64 a.Shock] .n rfl (.t rfl) (.t rfl) rfl ts_128 rfl rfl <|
      Lex.nil) ?_
  exact run_ret [] (.cons (.cN rfl rfl ag_128 rfl rfl) .nil) (by first | rfl | (simp only [put_len]; rfl)) trivial rfl

/-! ### laws_toAirwayS -/
theorem c_laws_toAirwayS (a : List gAirway) (hp1 : a.length ≤ 1048576 ∧ ∀ y ∈ a, gAirway.sz y) : Con Try.prog 38 [.sl 7 (a.map gAirway.v)] [] (.os 100 (m_laws_toAirwayS a).length) ([(100, some (.row 128 7 ((m_laws_toAirwayS a).map gAirway.v)))]) := by
  refine con_intro (out := fun r : (List gAirway) => ((.os 100 r.length : V), ([(100, some (.row 128 7 (r.map gAirway.v)))] : List (Nat × Option O)))) (r := (m_laws_toAirwayS a)) Try.func38 rfl Try.ntmps38 rfl ?_
  refine run_fact (t := 0) rfl fun hl => ?_
  have l1 := hl; clear hl; simp only [List.length_map] at l1
  refine run_seq ?_
  refine run_region (q_assign .n (.c rfl) rfl <|
      Lex.nil) ?_
  refine run_seq ?_
  refine run_region (q_move .n (.t rfl) rfl <|
      q_len .n (.t rfl) rfl len_map ss_22 rfl <|
      q_makem (f := gAirway.v) (l := 200) (gAirway.mk ([] : List UInt8) 0 0 0 0 0 0 : gAirway) .n rfl (.t rfl) (.t rfl) si_32 zv_128 (by first | omega | assumption | (simp only [List.length_append, List.length_cons, List.length_nil, List.length_replicate, put_len] at * <;> omega) | (exact hp1.2) | (exact at_all hp1.2 (by omega)) | (exact hp1.1) | (exact hp1)) rfl rfl rfl <|
      q_assign .n (.t rfl) rfl <|
      Lex.nil) ?_
  refine run_seq ?_
  refine run_seq ?_
  refine run_region (q_assign .n (.c rfl) rfl <|
      Lex.nil) ?_
  refine run_block ?_
  refine run_LOOP (m_laws_toAirwayS_b1 a) _ _ _ rfl (fun (x1 : (List gAirway) × Int) => 0 ≤ x1.2 ∧ x1.2 ≤ (a.length : Int) ∧ x1.1.length = (List.replicate ((a.length : Int) : Int).toNat (gAirway.mk ([] : List UInt8) 0 0 0 0 0 0 : gAirway)).length) (fun x1 => 0 ≤ x1.2 ∧ x1.2 ≤ (a.length : Int) ∧ x1.1.length = (List.replicate ((a.length : Int) : Int).toNat (gAirway.mk ([] : List UInt8) 0 0 0 0 0 0 : gAirway)).length ∧ (a.length : Int) ≤ x1.2) (fun x1 => ((a.length : Int) - x1.2 : Int).toNat) (fun x1 => ⟨[(0, some (true, .sl 7 (a.map gAirway.v))), (3, some (true, .os 200 x1.1.length)), (4, some (true, .int .i64 x1.2))], [(200, some (.row 128 7 (x1.1.map gAirway.v)))]⟩) (fun x1 => ⟨[(3, some (true, .os 200 x1.1.length))], [(200, some (.row 128 7 (x1.1.map gAirway.v)))]⟩) ⟨by first | omega | assumption | (simp only [List.length_append, List.length_cons, List.length_nil, List.length_replicate, put_len] at * <;> omega) | (exact hp1.2) | (exact at_all hp1.2 (by omega)) | (exact hp1.1) | (exact hp1), by first | omega | assumption | (simp only [List.length_append, List.length_cons, List.length_nil, List.length_replicate, put_len] at * <;> omega) | (exact hp1.2) | (exact at_all hp1.2 (by omega)) | (exact hp1.1) | (exact hp1), by first | omega | assumption | (simp only [List.length_append, List.length_cons, List.length_nil, List.length_replicate, put_len] at * <;> omega) | (exact hp1.2) | (exact at_all hp1.2 (by omega)) | (exact hp1.1) | (exact hp1)⟩ (by first | omega | assumption | (simp only [List.length_append, List.length_cons, List.length_nil, List.length_replicate, put_len] at * <;> omega) | (exact hp1.2) | (exact at_all hp1.2 (by omega)) | (exact hp1.1) | (exact hp1)) (sub_of [] ⟨rfl, rfl, rfl, trivial⟩ ⟨rfl, trivial⟩ rfl) ?_ ?_
  · intro x1 i5
    obtain ⟨e6, e7, e8, e9⟩ := i5
    try dsimp only at *
    refine run_seq ?_
    refine run_region (q_move .n (.t rfl) rfl <|
        q_assign .n (.t rfl) rfl <|
        Lex.nil) ?_
    exact run_ret [(100, 200)] (.cons (.t rfl rfl) .nil) (by first | rfl | (simp only [put_len]; rfl)) ⟨rfl, trivial⟩ rfl
  · intro rec1 k1 hk2 x1 i3
    obtain ⟨e10, e11, e12⟩ := i3
    try dsimp only at *
    refine run_seq ?_
    refine run_seq ?_
    refine run_region (q_move .n (.t rfl) rfl <|
        q_move .n (.t rfl) rfl <|
        q_len .n (.t rfl) rfl len_map ss_22 rfl <|
        q_int .n (.t rfl) (.t rfl) rfl rfl <|
        Lex.nil) ?_
    refine run_cond (.t rfl) rfl (fun h4 => ?_) (fun h4 => ?_)
    · try simp only [Bool.and_eq_true, Bool.or_eq_true, Bool.not_eq_true', Bool.and_eq_false_iff, Bool.or_eq_false_iff, Bool.not_eq_false', decide_eq_true_eq, decide_eq_false_iff_not, beq_iff_eq, bne_iff_ne, beq_eq_false_iff_ne, bne_eq_false_iff_eq, Bool.true_and, ne_eq, Decidable.not_not, Int.not_lt, Int.not_le, Nat.not_lt, Nat.not_le, strB_nil, strB_nil', strB_nnil, strB_nnil'] at h4
      refine run_skip ?_
      refine run_seq ?_
      refine run_block ?_
      refine run_region (q_move .n (.t rfl) rfl <|
          q_move .n (.t rfl) rfl <|
          q_move .n (.t rfl) rfl <|
          q_move .n (.t rfl) rfl <|
          q_idx_rm .n (.t rfl) (.t rfl) sl_22 (fun _ => by first | omega | assumption | (simp only [List.length_append, List.length_cons, List.length_nil, List.length_replicate, put_len] at * <;> omega) | (exact hp1.2) | (exact at_all hp1.2 (by omega)) | (exact hp1.1) | (exact hp1)) rfl <|
          q_ldN_ro .n (.t rfl) ag_123 rfl rfl rfl <|
          q_call0 (full := false) .n .f en_79 (.cons (.t rfl) .nil) (.cons (.sts rfl) .nil) (fun hg => c_laws_toAirway (at' a x1.2)) rfl (fun h => Bool.noConfusion h) rfl <|
          q_idx_ow .n (.t rfl) (.t rfl) sl_32 (fun _ => by first | omega | assumption | (simp only [List.length_append, List.length_cons, List.length_nil, List.length_replicate, put_len] at * <;> omega) | (exact hp1.2) | (exact at_all hp1.2 (by omega)) | (exact hp1.1) | (exact hp1)) rfl <|
          q_st_rowm (m_laws_toAirway (at' a x1.2)) .n rfl (.t rfl) (.t rfl) rfl ts_128 (by first | omega | assumption | (simp only [List.length_append, List.length_cons, List.length_nil, List.length_replicate, put_len] at * <;> omega) | (exact hp1.2) | (exact at_all hp1.2 (by omega)) | (exact hp1.1) | (exact hp1)) rfl rfl <|
          Lex.nil) ?_
      refine run_endB ?_
      refine run_region (q_move .n (.t rfl) rfl <|
          q_add .n (.t rfl) (.c rfl) (fun _ => by first | omega | assumption | (simp only [List.length_append, List.length_cons, List.length_nil, List.length_replicate, put_len] at * <;> omega) | (exact hp1.2) | (exact at_all hp1.2 (by omega)) | (exact hp1.1) | (exact hp1)) rfl <|
          q_assign .n (.t rfl) rfl <|
          Lex.nil) ?_
      exact run_again (put' x1.1 x1.2 (m_laws_toAirway (at' a x1.2)), x1.2 + 1) ⟨by first | omega | assumption | (simp only [List.length_append, List.length_cons, List.length_nil, List.length_replicate, put_len] at * <;> omega) | (exact hp1.2) | (exact at_all hp1.2 (by omega)) | (exact hp1.1) | (exact hp1), by first | omega | assumption | (simp only [List.length_append, List.length_cons, List.length_nil, List.length_replicate, put_len] at * <;> omega) | (exact hp1.2) | (exact at_all hp1.2 (by omega)) | (exact hp1.1) | (exact hp1), by first | omega | assumption | (simp only [List.length_append, List.length_cons, List.length_nil, List.length_replicate, put_len] at * <;> omega) | (exact hp1.2) | (exact at_all hp1.2 (by omega)) | (exact hp1.1) | (exact hp1)⟩ (by first | omega | assumption | (simp only [List.length_append, List.length_cons, List.length_nil, List.length_replicate, put_len] at * <;> omega) | (exact hp1.2) | (exact at_all hp1.2 (by omega)) | (exact hp1.1) | (exact hp1)) (sub_of [] ⟨rfl, os_len rfl (by first | (simp only [put_len]; done) | (first | omega | assumption | (simp only [List.length_append, List.length_cons, List.length_nil, List.length_replicate, put_len] at * <;> omega) | (exact hp1.2) | (exact at_all hp1.2 (by omega)) | (exact hp1.1) | (exact hp1))), rfl, trivial⟩ ⟨rfl, trivial⟩ rfl)
    · try simp only [Bool.and_eq_true, Bool.or_eq_true, Bool.not_eq_true', Bool.and_eq_false_iff, Bool.or_eq_false_iff, Bool.not_eq_false', decide_eq_true_eq, decide_eq_false_iff_not, beq_iff_eq, bne_iff_ne, beq_eq_false_iff_ne, bne_eq_false_iff_eq, Bool.true_and, ne_eq, Decidable.not_not, Int.not_lt, Int.not_le, Nat.not_lt, Nat.not_le, strB_nil, strB_nil', strB_nnil, strB_nnil'] at h4
      refine run_exit rfl ?_
      exact run_cont hk2 (x1.1, x1.2) ⟨by first | omega | assumption | (simp only [List.length_append, List.length_cons, List.length_nil, List.length_replicate, put_len] at * <;> omega) | (exact hp1.2) | (exact at_all hp1.2 (by omega)) | (exact hp1.1) | (exact hp1), by first | omega | assumption | (simp only [List.length_append, List.length_cons, List.length_nil, List.length_replicate, put_len] at * <;> omega) | (exact hp1.2) | (exact at_all hp1.2 (by omega)) | (exact hp1.1) | (exact hp1), by first | omega | assumption | (simp only [List.length_append, List.length_cons, List.length_nil, List.length_replicate, put_len] at * <;> omega) | (exact hp1.2) | (exact at_all hp1.2 (by omega)) | (exact hp1.1) | (exact hp1), by first | omega | assumption | (simp only [List.length_append, List.length_cons, List.length_nil, List.length_replicate, put_len] at * <;> omega) | (exact hp1.2) | (exact at_all hp1.2 (by omega)) | (exact hp1.1) | (exact hp1)⟩ (sub_of [] ⟨rfl, trivial⟩ ⟨rfl, trivial⟩ rfl)

/-! ### laws_toMine -/
theorem c_laws_toMine (a : gMine) (hp1 : gMine.sz a) : Con Try.prog 10 [.st [.int .i64 a.Junctions, .sl 7 (a.Airways.map gAirway.v)]] [] (.st [.int .i64 (m_laws_toMine a).Junctions, .os 100 (m_laws_toMine a).Airways.length]) ([(100, some (.row 128 7 ((m_laws_toMine a).Airways.map gAirway.v)))]) := by
  refine con_intro (out := fun r : gMine => ((.st [.int .i64 r.Junctions, .os 100 r.Airways.length] : V), ([(100, some (.row 128 7 (r.Airways.map gAirway.v)))] : List (Nat × Option O)))) (r := (m_laws_toMine a)) Try.func10 rfl Try.ntmps10 rfl ?_
  refine run_factS (t := 0) 1 rfl rfl fun hl => ?_
  have l1 := hl; clear hl; simp only [List.length_map] at l1
  refine run_seq ?_
  refine run_region (q_box (l := 200) .n rfl (.t rfl) rfl rfl rfl rfl <|
      q_alloc (l := 201) .n rfl zv_34 rfl rfl <|
      Lex.nil) ?_
  refine run_seq ?_
  refine run_region (q_alloc (l := 202) .n rfl zv_34 rfl rfl <|
      Lex.nil) ?_
  refine run_seq ?_
  refine run_region (q_fld_ow .n (.t rfl) fo_24_0 rfl <|
      q_ld1_ow .n (.t rfl) rfl (.inr rfl) (fun _ => rfl) rfl ic_2 rfl <|
      q_fld_ow .n (.t rfl) fo_34_0 rfl <|
      q_st_boxm [.int .i64 a.Junctions, .nls] .n rfl (.t rfl) (.t rfl) rfl ts_2 rfl rfl <|
      Lex.nil) ?_
  refine run_seq ?_
  refine run_region (q_fld_ow .n (.t rfl) fo_24_1 rfl <|
      q_ld1_ow .n (.t rfl) rfl (.inr rfl) (fun _ => rfl) rfl ic_22 rfl <|
      q_callM (full := false) [] [(100, 203)] .n rfl .f en_38 (.cons (.t rfl) .nil) (.cons (.b (.a (.same rfl))) .nil) (c_laws_toAirwayS a.Airways (by first | omega | assumption | (simp only [List.length_append, List.length_cons, List.length_nil, List.length_replicate, put_len] at * <;> omega) | (exact hp1.2) | (exact at_all hp1.2 (by omega)) | (exact hp1.1) | (exact hp1))) trivial rfl rfl (fun h => Bool.noConfusion h) (fun h => Bool.noConfusion h) rfl <|
      q_fld_ow .n (.t rfl) fo_34_1 rfl <|
      q_st_boxm [.int .i64 a.Junctions, .os 203 (m_laws_toAirwayS a.Airways).length] .n rfl (.t rfl) (.t rfl) rfl ts_32 rfl rfl <|
      Lex.nil) ?_
  refine run_seq ?_
  refine run_region (q_ldN_ow .n (.t rfl) rfl (.inr rfl) ag_34 (fun _ => rfl) rfl rfl <|
      q_st_boxm [.int .i64 a.Junctions, .os 203 (m_laws_toAirwayS a.Airways).length] .n rfl (.t rfl) (.t rfl) rfl ts_34 rfl rfl <|
      Lex.nil) ?_
  exact run_ret [(100, 203)] (.cons (.cN rfl rfl ag_34 rfl rfl) .nil) (by first | rfl | (simp only [put_len]; rfl)) ⟨rfl, trivial⟩ rfl


end Go.Proofs.Ytjieemgagalkjaa
