/-
  THE WALKS: each Go function computes its model. Conditions: as each theorem states them (hp1, hp2 ..).
-/
import Derived.Test.YtibbfdojcdkopaaExactAssignCrewsPlain17
import Derived.Test.YtibbfdojcdkopaaProg
import Derived.Test.YtibbfdojcdkopaaEngP
import Derived.Test.YtibbfdojcdkopaaEngQ
import Derived.Test.YtibbfdojcdkopaaEngR
import Derived.Test.YtibbfdojcdkopaaEngU
set_option linter.unusedVariables false
set_option linter.unusedSimpArgs false
set_option linter.unusedSectionVars false
set_option linter.unnecessarySimpa false
namespace Go.Proofs.Ytibbfdojcdkopaa
open Go Go.RowKit Go.Proofs Go.Proofs.Ytibbfdojcdkopaa.E
theorem fo_93_0 : fldOff Try.prog 93 0 = some 0 := by kernel_rfl
theorem ic_9 : isCell Try.prog 9 = true := by kernel_rfl
theorem st_9 : isStr Try.prog 9 = true := by kernel_rfl
theorem ss_22 : (slEl Try.prog 22).isSome = true := by kernel_rfl
theorem sl_22 : slEl Try.prog 22 = some (93, 7) := by kernel_rfl
theorem ag_93 : aggSz Try.prog 93 = some 7 := by kernel_rfl
theorem en_47 : entB Try.prog 47 = true := by kernel_rfl
theorem fo_24_1 : fldOff Try.prog 24 1 = some 1 := by kernel_rfl
theorem ic_22 : isCell Try.prog 22 = true := by kernel_rfl
theorem en_22 : entB Try.prog 22 = true := by kernel_rfl
theorem fo_54_0 : fldOff Try.prog 54 0 = some 0 := by kernel_rfl
theorem ss_26 : (slEl Try.prog 26).isSome = true := by kernel_rfl
theorem sl_26 : slEl Try.prog 26 = some (54, 3) := by kernel_rfl
theorem ag_54 : aggSz Try.prog 54 = some 3 := by kernel_rfl
theorem en_23 : entB Try.prog 23 = true := by kernel_rfl
theorem fo_57_0 : fldOff Try.prog 57 0 = some 0 := by kernel_rfl
theorem ss_27 : (slEl Try.prog 27).isSome = true := by kernel_rfl
theorem sl_27 : slEl Try.prog 27 = some (57, 4) := by kernel_rfl
theorem ag_57 : aggSz Try.prog 57 = some 4 := by kernel_rfl
theorem en_24 : entB Try.prog 24 = true := by kernel_rfl
theorem en_84 : entB Try.prog 84 = true := by kernel_rfl
theorem en_85 : entB Try.prog 85 = true := by kernel_rfl
theorem fo_99_0 : fldOff Try.prog 99 0 = some 0 := by kernel_rfl
theorem en_74 : entB Try.prog 74 = true := by kernel_rfl
theorem fo_99_1 : fldOff Try.prog 99 1 = some 1 := by kernel_rfl
theorem ic_2 : isCell Try.prog 2 = true := by kernel_rfl
theorem en_27 : entB Try.prog 27 = true := by kernel_rfl
theorem fo_99_2 : fldOff Try.prog 99 2 = some 2 := by kernel_rfl
theorem fmo : Try.prog.follows .mixedOrders = true := by kernel_rfl
theorem fo_99_3 : fldOff Try.prog 99 3 = some 3 := by kernel_rfl
theorem fo_99_4 : fldOff Try.prog 99 4 = some 4 := by kernel_rfl
theorem fo_99_5 : fldOff Try.prog 99 5 = some 5 := by kernel_rfl
theorem fo_99_6 : fldOff Try.prog 99 6 = some 6 := by kernel_rfl
theorem fo_35_0 : fldOff Try.prog 35 0 = some 0 := by kernel_rfl
theorem fo_35_1 : fldOff Try.prog 35 1 = some 1 := by kernel_rfl
theorem ic_33 : isCell Try.prog 33 = true := by kernel_rfl
theorem ss_33 : (slEl Try.prog 33).isSome = true := by kernel_rfl
theorem sl_33 : slEl Try.prog 33 = some (99, 7) := by kernel_rfl
theorem en_72 : entB Try.prog 72 = true := by kernel_rfl
theorem en_73 : entB Try.prog 73 = true := by kernel_rfl
theorem fo_72_0 : fldOff Try.prog 72 0 = some 0 := by kernel_rfl
theorem fo_72_1 : fldOff Try.prog 72 1 = some 1 := by kernel_rfl
theorem fo_72_2 : fldOff Try.prog 72 2 = some 2 := by kernel_rfl
theorem fo_72_3 : fldOff Try.prog 72 3 = some 3 := by kernel_rfl
theorem en_48 : entB Try.prog 48 = true := by kernel_rfl
theorem ss_40 : (slEl Try.prog 40).isSome = true := by kernel_rfl
theorem sl_40 : slEl Try.prog 40 = some (72, 4) := by kernel_rfl
theorem en_49 : entB Try.prog 49 = true := by kernel_rfl
theorem fo_71_0 : fldOff Try.prog 71 0 = some 0 := by kernel_rfl
theorem fo_71_1 : fldOff Try.prog 71 1 = some 1 := by kernel_rfl
theorem fo_71_2 : fldOff Try.prog 71 2 = some 2 := by kernel_rfl
theorem ss_38 : (slEl Try.prog 38).isSome = true := by kernel_rfl
theorem sl_38 : slEl Try.prog 38 = some (71, 3) := by kernel_rfl
theorem en_50 : entB Try.prog 50 = true := by kernel_rfl
theorem ss_25 : (slEl Try.prog 25).isSome = true := by kernel_rfl
theorem sl_25 : slEl Try.prog 25 = some (2, 1) := by kernel_rfl
theorem en_51 : entB Try.prog 51 = true := by kernel_rfl
theorem ts_2 : tySz Try.prog 2 = some 1 := by kernel_rfl
theorem si_25 : slInfo Try.prog 25 = some (2, 1, 8) := by kernel_rfl
theorem zv_2 : zeroV Try.prog 2 = some (.int .i64 0) := by kernel_rfl
theorem en_52 : entB Try.prog 52 = true := by kernel_rfl
theorem en_53 : entB Try.prog 53 = true := by kernel_rfl
theorem fo_68_6 : fldOff Try.prog 68 6 = some 6 := by kernel_rfl
theorem fo_68_7 : fldOff Try.prog 68 7 = some 7 := by kernel_rfl
theorem fo_68_8 : fldOff Try.prog 68 8 = some 8 := by kernel_rfl
theorem fo_68_9 : fldOff Try.prog 68 9 = some 9 := by kernel_rfl
theorem ts_4 : tySz Try.prog 4 = some 1 := by kernel_rfl
theorem ic_4 : isCell Try.prog 4 = true := by kernel_rfl
theorem fo_68_4 : fldOff Try.prog 68 4 = some 4 := by kernel_rfl
theorem ic_25 : isCell Try.prog 25 = true := by kernel_rfl
theorem fo_68_0 : fldOff Try.prog 68 0 = some 0 := by kernel_rfl
theorem en_54 : entB Try.prog 54 = true := by kernel_rfl
theorem fo_68_5 : fldOff Try.prog 68 5 = some 5 := by kernel_rfl
theorem ts_25 : tySz Try.prog 25 = some 1 := by kernel_rfl
theorem fo_68_1 : fldOff Try.prog 68 1 = some 1 := by kernel_rfl
theorem ic_66 : isCell Try.prog 66 = true := by kernel_rfl
theorem sl_66 : slEl Try.prog 66 = some (25, 1) := by kernel_rfl
theorem fo_68_2 : fldOff Try.prog 68 2 = some 2 := by kernel_rfl
theorem fo_68_3 : fldOff Try.prog 68 3 = some 3 := by kernel_rfl
theorem en_55 : entB Try.prog 55 = true := by kernel_rfl
theorem en_32 : entB Try.prog 32 = true := by kernel_rfl
theorem en_25 : entB Try.prog 25 = true := by kernel_rfl
theorem en_26 : entB Try.prog 26 = true := by kernel_rfl
theorem en_28 : entB Try.prog 28 = true := by kernel_rfl
theorem en_29 : entB Try.prog 29 = true := by kernel_rfl
theorem en_30 : entB Try.prog 30 = true := by kernel_rfl
theorem zv_68 : zeroV Try.prog 68 = some (.st [.nls, .nls, .nls, .nls, .nls, .nls, .int .i64 0, .int .i64 0, .int .i64 0, .bool false]) := by kernel_rfl
theorem pl_68 : places Try.prog 68 = some [(0, 1), (1, 1), (2, 1), (3, 1), (4, 1), (5, 1), (6, 1), (7, 1), (8, 1), (9, 1)] := by kernel_rfl
theorem en_31 : entB Try.prog 31 = true := by kernel_rfl
theorem si_66 : slInfo Try.prog 66 = some (25, 1, 24) := by kernel_rfl
theorem zv_25 : zeroV Try.prog 25 = some (.nls) := by kernel_rfl
theorem ts_66 : tySz Try.prog 66 = some 1 := by kernel_rfl
theorem zv_99 : zeroV Try.prog 99 = some (.st [.str ([] : List UInt8), .int .i64 0, .int .i64 0, .int .i64 0, .int .i64 0, .int .i64 0, .int .i64 0]) := by kernel_rfl
theorem ts_9 : tySz Try.prog 9 = some 1 := by kernel_rfl
theorem fo_93_1 : fldOff Try.prog 93 1 = some 1 := by kernel_rfl
theorem fo_93_2 : fldOff Try.prog 93 2 = some 2 := by kernel_rfl
theorem fo_93_3 : fldOff Try.prog 93 3 = some 3 := by kernel_rfl
theorem fo_93_4 : fldOff Try.prog 93 4 = some 4 := by kernel_rfl
theorem fo_93_5 : fldOff Try.prog 93 5 = some 5 := by kernel_rfl
theorem fo_93_6 : fldOff Try.prog 93 6 = some 6 := by kernel_rfl
theorem ag_99 : aggSz Try.prog 99 = some 7 := by kernel_rfl
theorem ts_99 : tySz Try.prog 99 = some 7 := by kernel_rfl
theorem si_33 : slInfo Try.prog 33 = some (99, 7, 64) := by kernel_rfl
theorem en_56 : entB Try.prog 56 = true := by kernel_rfl
theorem zv_35 : zeroV Try.prog 35 = some (.st [.int .i64 0, .nls]) := by kernel_rfl
theorem fo_24_0 : fldOff Try.prog 24 0 = some 0 := by kernel_rfl
theorem en_33 : entB Try.prog 33 = true := by kernel_rfl
theorem ts_33 : tySz Try.prog 33 = some 1 := by kernel_rfl
theorem ag_35 : aggSz Try.prog 35 = some 2 := by kernel_rfl
theorem ts_35 : tySz Try.prog 35 = some 2 := by kernel_rfl
theorem zv_71 : zeroV Try.prog 71 = some (.st [.str ([] : List UInt8), .int .i64 0, .int .i64 0]) := by kernel_rfl
theorem fo_54_1 : fldOff Try.prog 54 1 = some 1 := by kernel_rfl
theorem fo_54_2 : fldOff Try.prog 54 2 = some 2 := by kernel_rfl
theorem ag_71 : aggSz Try.prog 71 = some 3 := by kernel_rfl
theorem ts_71 : tySz Try.prog 71 = some 3 := by kernel_rfl
theorem si_38 : slInfo Try.prog 38 = some (71, 3, 32) := by kernel_rfl
theorem en_34 : entB Try.prog 34 = true := by kernel_rfl
theorem zv_72 : zeroV Try.prog 72 = some (.st [.str ([] : List UInt8), .int .i64 0, .int .i64 0, .int .i64 0]) := by kernel_rfl
theorem fo_57_1 : fldOff Try.prog 57 1 = some 1 := by kernel_rfl
theorem fo_57_2 : fldOff Try.prog 57 2 = some 2 := by kernel_rfl
theorem fo_57_3 : fldOff Try.prog 57 3 = some 3 := by kernel_rfl
theorem ag_72 : aggSz Try.prog 72 = some 4 := by kernel_rfl
theorem ts_72 : tySz Try.prog 72 = some 4 := by kernel_rfl
theorem si_40 : slInfo Try.prog 40 = some (72, 4, 40) := by kernel_rfl
theorem en_35 : entB Try.prog 35 = true := by kernel_rfl
theorem en_81 : entB Try.prog 81 = true := by kernel_rfl
theorem en_58 : entB Try.prog 58 = true := by kernel_rfl
theorem en_64 : entB Try.prog 64 = true := by kernel_rfl
theorem en_63 : entB Try.prog 63 = true := by kernel_rfl
theorem en_86 : entB Try.prog 86 = true := by kernel_rfl
theorem en_79 : entB Try.prog 79 = true := by kernel_rfl
theorem en_80 : entB Try.prog 80 = true := by kernel_rfl
theorem en_62 : entB Try.prog 62 = true := by kernel_rfl
theorem en_77 : entB Try.prog 77 = true := by kernel_rfl
theorem en_78 : entB Try.prog 78 = true := by kernel_rfl
theorem en_60 : entB Try.prog 60 = true := by kernel_rfl
theorem en_75 : entB Try.prog 75 = true := by kernel_rfl
theorem en_76 : entB Try.prog 76 = true := by kernel_rfl
theorem en_39 : entB Try.prog 39 = true := by kernel_rfl
theorem zv_78 : zeroV Try.prog 78 = some (.st [.int .i64 0, .nls, .nls, .int .i64 0]) := by kernel_rfl
theorem en_57 : entB Try.prog 57 = true := by kernel_rfl
theorem pl_78 : places Try.prog 78 = some [(0, 2), (2, 1), (3, 1)] := by kernel_rfl
theorem ts_78 : tySz Try.prog 78 = some 4 := by kernel_rfl
theorem en_59 : entB Try.prog 59 = true := by kernel_rfl
theorem ag_78 : aggSz Try.prog 78 = some 4 := by kernel_rfl
theorem en_61 : entB Try.prog 61 = true := by kernel_rfl
theorem cv_127_130 : cvInt Try.prog 127 130 = some .u64 := by kernel_rfl
theorem cv_130_127 : cvInt Try.prog 130 127 = some .u32 := by kernel_rfl
theorem cv_122_127 : cvInt Try.prog 122 127 = some .u32 := by kernel_rfl
theorem en_87 : entB Try.prog 87 = true := by kernel_rfl
theorem cv_127_122 : cvInt Try.prog 127 122 = some .u64 := by kernel_rfl
theorem en_88 : entB Try.prog 88 = true := by kernel_rfl
theorem cv_3_122 : cvInt Try.prog 3 122 = some .u64 := by kernel_rfl
theorem en_82 : entB Try.prog 82 = true := by kernel_rfl
theorem cv_122_3 : cvInt Try.prog 122 3 = some .i64 := by kernel_rfl
theorem fo_78_1 : fldOff Try.prog 78 1 = some 2 := by kernel_rfl
theorem en_83 : entB Try.prog 83 = true := by kernel_rfl
theorem fo_78_0 : fldOff Try.prog 78 0 = some 0 := by kernel_rfl
theorem en_65 : entB Try.prog 65 = true := by kernel_rfl
theorem en_66 : entB Try.prog 66 = true := by kernel_rfl
theorem zv_109 : zeroV Try.prog 109 = some (.st [.int .i64 0, .int .i64 0]) := by kernel_rfl
theorem ae_109 : arrEl Try.prog 109 = some (2, 2, 1) := by kernel_rfl
theorem zv_110 : zeroV Try.prog 110 = some (.st [.int .i64 0, .int .i64 0, .int .i64 0, .int .i64 0]) := by kernel_rfl
theorem ae_110 : arrEl Try.prog 110 = some (2, 109, 2) := by kernel_rfl
theorem ag_109 : aggSz Try.prog 109 = some 2 := by kernel_rfl
theorem ts_109 : tySz Try.prog 109 = some 2 := by kernel_rfl
theorem en_67 : entB Try.prog 67 = true := by kernel_rfl
theorem fo_78_2 : fldOff Try.prog 78 2 = some 3 := by kernel_rfl
theorem us_25 : Try.prog.underlying 25 = some (.slice 2) := by kernel_rfl
theorem fo_84_3 : fldOff Try.prog 84 3 = some 3 := by kernel_rfl
theorem fo_84_4 : fldOff Try.prog 84 4 = some 4 := by kernel_rfl
theorem en_41 : entB Try.prog 41 = true := by kernel_rfl
theorem fo_84_0 : fldOff Try.prog 84 0 = some 0 := by kernel_rfl
theorem en_68 : entB Try.prog 68 = true := by kernel_rfl
theorem fo_84_5 : fldOff Try.prog 84 5 = some 5 := by kernel_rfl
theorem fo_84_6 : fldOff Try.prog 84 6 = some 6 := by kernel_rfl
theorem en_69 : entB Try.prog 69 = true := by kernel_rfl
theorem fo_84_1 : fldOff Try.prog 84 1 = some 1 := by kernel_rfl
theorem fo_84_2 : fldOff Try.prog 84 2 = some 2 := by kernel_rfl
theorem en_70 : entB Try.prog 70 = true := by kernel_rfl
theorem en_36 : entB Try.prog 36 = true := by kernel_rfl
theorem en_37 : entB Try.prog 37 = true := by kernel_rfl
theorem en_38 : entB Try.prog 38 = true := by kernel_rfl
theorem zv_84 : zeroV Try.prog 84 = some (.st [.nls, .nls, .nls, .int .i64 0, .nls, .nls, .int .i64 0]) := by kernel_rfl
theorem pl_84 : places Try.prog 84 = some [(0, 1), (1, 1), (2, 1), (3, 1), (4, 1), (5, 1), (6, 1)] := by kernel_rfl
theorem ts_84 : tySz Try.prog 84 = some 7 := by kernel_rfl
theorem en_40 : entB Try.prog 40 = true := by kernel_rfl
theorem en_71 : entB Try.prog 71 = true := by kernel_rfl
theorem en_42 : entB Try.prog 42 = true := by kernel_rfl
theorem en_43 : entB Try.prog 43 = true := by kernel_rfl
theorem en_44 : entB Try.prog 44 = true := by kernel_rfl
theorem cv_3_5 : cvInt Try.prog 3 5 = some .u8 := by kernel_rfl
theorem si_116 : slInfo Try.prog 116 = some (5, 1, 1) := by kernel_rfl
theorem zv_5 : zeroV Try.prog 5 = some (.int .u8 0) := by kernel_rfl
theorem bs_116_9 : b2sOk Try.prog 116 9 = true := by kernel_rfl
theorem en_46 : entB Try.prog 46 = true := by kernel_rfl
theorem en_45 : entB Try.prog 45 = true := by kernel_rfl
theorem ag_24 : aggSz Try.prog 24 = some 2 := by kernel_rfl
theorem en_4 : entB Try.prog 4 = true := by kernel_rfl
theorem en_5 : entB Try.prog 5 = true := by kernel_rfl
theorem en_6 : entB Try.prog 6 = true := by kernel_rfl
theorem en_8 : entB Try.prog 8 = true := by kernel_rfl
theorem en_9 : entB Try.prog 9 = true := by kernel_rfl
theorem en_10 : entB Try.prog 10 = true := by kernel_rfl
theorem en_11 : entB Try.prog 11 = true := by kernel_rfl
theorem en_7 : entB Try.prog 7 = true := by kernel_rfl
theorem en_12 : entB Try.prog 12 = true := by kernel_rfl
theorem en_13 : entB Try.prog 13 = true := by kernel_rfl
theorem en_14 : entB Try.prog 14 = true := by kernel_rfl
theorem en_15 : entB Try.prog 15 = true := by kernel_rfl
theorem en_16 : entB Try.prog 16 = true := by kernel_rfl
theorem en_17 : entB Try.prog 17 = true := by kernel_rfl
theorem en_18 : entB Try.prog 18 = true := by kernel_rfl
theorem en_19 : entB Try.prog 19 = true := by kernel_rfl
theorem en_20 : entB Try.prog 20 = true := by kernel_rfl
theorem en_21 : entB Try.prog 21 = true := by kernel_rfl

/-! ### laws_szAirway -/
theorem c_laws_szAirway (a : gAirway) (left : Int) : Con Try.prog 47 [.st [.str a.Id, .int .i64 a.From, .int .i64 a.To, .int .i64 a.Length, .int .i64 a.Section, .int .i64 a.Friction, .int .i64 a.Shock], .int .i64 left] [] (.int .i64 (m_laws_szAirway a left)) ([]) := by
  refine con_intro (out := fun r : Int => ((.int .i64 r : V), ([] : List (Nat × Option O)))) (r := (m_laws_szAirway a left)) Try.func47 rfl Try.ntmps47 rfl ?_
  refine run_seq ?_
  refine run_region (q_box (l := 200) .n rfl (.t rfl) rfl rfl rfl rfl <| q_assign .n (.c rfl) rfl <| Lex.nil) ?_
  refine run_seq ?_
  refine run_region (q_move .n (.t rfl) rfl <| q_fld_ow .n (.t rfl) fo_93_0 rfl <| q_ld1_ow .n (.t rfl) rfl (.inr rfl) (fun _ => rfl) rfl ic_9 rfl <| q_len .n (.t rfl) rfl rfl st_9 rfl <| q_int .n (.t rfl) (.t rfl) rfl rfl <| q_assign .n (.t rfl) rfl <| Lex.nil) ?_
  refine run_seq ?_
  refine run_seq ?_
  refine run_region (q_move .n (.t rfl) rfl <| q_int .n (.t rfl) (.c rfl) rfl rfl <| Lex.nil) ?_
  refine run_cond (.t rfl) rfl (fun h1 => ?_) (fun h1 => ?_)
  · try simp only [Bool.and_eq_true, Bool.or_eq_true, Bool.not_eq_true', Bool.and_eq_false_iff, Bool.or_eq_false_iff, Bool.not_eq_false', decide_eq_true_eq, decide_eq_false_iff_not, beq_iff_eq, bne_iff_ne, beq_eq_false_iff_ne, bne_eq_false_iff_eq, Bool.true_and, ne_eq, Decidable.not_not, Int.not_lt, Int.not_le, Nat.not_lt, Nat.not_le, strB_nil, strB_nil', strB_nnil, strB_nnil'] at h1
    refine run_seq ?_
    refine run_region (q_assign .n (.c rfl) rfl <| Lex.nil) ?_
    exact run_ret [] (.cons (.t rfl rfl) .nil) rfl trivial rfl
  · try simp only [Bool.and_eq_true, Bool.or_eq_true, Bool.not_eq_true', Bool.and_eq_false_iff, Bool.or_eq_false_iff, Bool.not_eq_false', decide_eq_true_eq, decide_eq_false_iff_not, beq_iff_eq, bne_iff_ne, beq_eq_false_iff_ne, bne_eq_false_iff_eq, Bool.true_and, ne_eq, Decidable.not_not, Int.not_lt, Int.not_le, Nat.not_lt, Nat.not_le, strB_nil, strB_nil', strB_nnil, strB_nnil'] at h1
    refine run_skip ?_
    refine run_seq ?_
    refine run_region (q_move .n (.t rfl) rfl <| q_assign .n (.t rfl) rfl <| Lex.nil) ?_
    exact run_ret [] (.cons (.t rfl rfl) .nil) rfl trivial rfl

/-! ### laws_szAirwayS -/
theorem c_laws_szAirwayS (a : List gAirway) (left : Int) : Con Try.prog 22 [.sl 7 (a.map gAirway.v), .int .i64 left] [] (.int .i64 (m_laws_szAirwayS a left)) ([]) := by
  refine con_intro (out := fun r : Int => ((.int .i64 r : V), ([] : List (Nat × Option O)))) (r := (m_laws_szAirwayS a left)) Try.func22 rfl Try.ntmps22 rfl ?_
  refine run_fact (t := 0) rfl fun hl => ?_
  have l1 := hl; clear hl; simp only [List.length_map] at l1
  refine run_seq ?_
  refine run_region (q_assign .n (.c rfl) rfl <| Lex.nil) ?_
  refine run_seq ?_
  refine run_region (q_move .n (.t rfl) rfl <| q_move .n (.t rfl) rfl <| q_len .n (.t rfl) rfl len_map ss_22 rfl <| q_int .n (.t rfl) (.t rfl) rfl rfl <| q_assign .n (.t rfl) rfl <| Lex.nil) ?_
  refine run_seq ?_
  refine run_seq ?_
  refine run_region (q_move .n (.t rfl) rfl <| q_int .n (.t rfl) (.c rfl) rfl rfl <| Lex.nil) ?_
  refine run_cond (.t rfl) rfl (fun h2 => ?_) (fun h2 => ?_)
  · try simp only [Bool.and_eq_true, Bool.or_eq_true, Bool.not_eq_true', Bool.and_eq_false_iff, Bool.or_eq_false_iff, Bool.not_eq_false', decide_eq_true_eq, decide_eq_false_iff_not, beq_iff_eq, bne_iff_ne, beq_eq_false_iff_ne, bne_eq_false_iff_eq, Bool.true_and, ne_eq, Decidable.not_not, Int.not_lt, Int.not_le, Nat.not_lt, Nat.not_le, strB_nil, strB_nil', strB_nnil, strB_nnil'] at h2
    refine run_seq ?_
    refine run_region (q_assign .n (.c rfl) rfl <| Lex.nil) ?_
    exact run_ret [] (.cons (.t rfl rfl) .nil) rfl trivial rfl
  · try simp only [Bool.and_eq_true, Bool.or_eq_true, Bool.not_eq_true', Bool.and_eq_false_iff, Bool.or_eq_false_iff, Bool.not_eq_false', decide_eq_true_eq, decide_eq_false_iff_not, beq_iff_eq, bne_iff_ne, beq_eq_false_iff_ne, bne_eq_false_iff_eq, Bool.true_and, ne_eq, Decidable.not_not, Int.not_lt, Int.not_le, Nat.not_lt, Nat.not_le, strB_nil, strB_nil', strB_nnil, strB_nnil'] at h2
    refine run_skip ?_
    refine run_seq ?_
    refine run_seq ?_
    refine run_region (q_assign .n (.c rfl) rfl <| Lex.nil) ?_
    refine run_block ?_
    refine run_LOOP (m_laws_szAirwayS_b1 a left) _ _ _ rfl (fun (x1 : Int × Int) => 0 ≤ x1.2 ∧ x1.2 ≤ (a.length : Int)) (fun x1 => 0 ≤ x1.2 ∧ x1.2 ≤ (a.length : Int) ∧ (a.length : Int) ≤ x1.2) (fun x1 => ((a.length : Int) - x1.2 : Int).toNat) (fun x1 => ⟨[(0, some (true, .sl 7 (a.map gAirway.v))), (1, some (true, .int .i64 x1.1)), (5, some (true, .int .i64 x1.2))], []⟩) (fun x1 => ⟨[(1, some (true, .int .i64 x1.1))], []⟩) ⟨by omega, by omega⟩ (by omega) (sub_of [] ⟨rfl, rfl, rfl, trivial⟩ trivial rfl) ?_ ?_
    · intro x1 i7
      obtain ⟨e8, e9, e10⟩ := i7
      try dsimp only at *
      refine run_seq ?_
      refine run_region (q_move .n (.t rfl) rfl <| q_assign .n (.t rfl) rfl <| Lex.nil) ?_
      exact run_ret [] (.cons (.t rfl rfl) .nil) rfl trivial rfl
    · intro rec1 k1 hk3 x1 i4
      obtain ⟨e11, e12⟩ := i4
      try dsimp only at *
      refine run_seq ?_
      refine run_seq ?_
      refine run_region (q_move .n (.t rfl) rfl <| q_move .n (.t rfl) rfl <| q_len .n (.t rfl) rfl len_map ss_22 rfl <| q_int .n (.t rfl) (.t rfl) rfl rfl <| Lex.nil) ?_
      refine run_cond (.t rfl) rfl (fun h5 => ?_) (fun h5 => ?_)
      · try simp only [Bool.and_eq_true, Bool.or_eq_true, Bool.not_eq_true', Bool.and_eq_false_iff, Bool.or_eq_false_iff, Bool.not_eq_false', decide_eq_true_eq, decide_eq_false_iff_not, beq_iff_eq, bne_iff_ne, beq_eq_false_iff_ne, bne_eq_false_iff_eq, Bool.true_and, ne_eq, Decidable.not_not, Int.not_lt, Int.not_le, Nat.not_lt, Nat.not_le, strB_nil, strB_nil', strB_nnil, strB_nnil'] at h5
        refine run_skip ?_
        refine run_seq ?_
        refine run_block ?_
        refine run_seq ?_
        refine run_region (q_move .n (.t rfl) rfl <| q_move .n (.t rfl) rfl <| q_idx_rm .n (.t rfl) (.t rfl) sl_22 (fun _ => by omega) rfl <| q_ldN_ro .n (.t rfl) ag_93 rfl rfl rfl <| q_move .n (.t rfl) rfl <| q_call0 (full := false) .n .f en_47 (.cons (.t rfl) (.cons (.t rfl) .nil)) (.cons (.sts rfl) (.cons (.b (.a (.same rfl))) .nil)) (fun hg => c_laws_szAirway (at' a x1.2) x1.1) rfl (fun h => Bool.noConfusion h) rfl <| q_assign .n (.t rfl) rfl <| Lex.nil) ?_
        refine run_seq ?_
        refine run_region (q_move .n (.t rfl) rfl <| q_int .n (.t rfl) (.c rfl) rfl rfl <| Lex.nil) ?_
        refine run_cond (.t rfl) rfl (fun h6 => ?_) (fun h6 => ?_)
        · try simp only [Bool.and_eq_true, Bool.or_eq_true, Bool.not_eq_true', Bool.and_eq_false_iff, Bool.or_eq_false_iff, Bool.not_eq_false', decide_eq_true_eq, decide_eq_false_iff_not, beq_iff_eq, bne_iff_ne, beq_eq_false_iff_ne, bne_eq_false_iff_eq, Bool.true_and, ne_eq, Decidable.not_not, Int.not_lt, Int.not_le, Nat.not_lt, Nat.not_le, strB_nil, strB_nil', strB_nnil, strB_nnil'] at h6
          try have hf0h6 := szAirway_impA (by assumption) (by omega) (by omega) h6
          try have hf1h6 := szAirway_impA (by assumption) (by omega) (by omega) h6.1
          try have hf2h6 := szAirway_impA (by assumption) (by omega) (by omega) h6.2
          try have hf3h6 := szAirway_impA (by assumption) (by omega) (by omega) h6.1.1
          try have hf4h6 := szAirway_impA (by assumption) (by omega) (by omega) h6.1.2
          try have hf5h6 := szAirway_impA (by assumption) (by omega) (by omega) h6.2.1
          try have hf6h6 := szAirway_impA (by assumption) (by omega) (by omega) h6.2.2
          try have hf7h6 := szAirway_impB (by assumption) (by omega) (by omega) h6
          try have hf8h6 := szAirway_impB (by assumption) (by omega) (by omega) h6.1
          try have hf9h6 := szAirway_impB (by assumption) (by omega) (by omega) h6.2
          try have hf10h6 := szAirway_impB (by assumption) (by omega) (by omega) h6.1.1
          try have hf11h6 := szAirway_impB (by assumption) (by omega) (by omega) h6.1.2
          try have hf12h6 := szAirway_impB (by assumption) (by omega) (by omega) h6.2.1
          try have hf13h6 := szAirway_impB (by assumption) (by omega) (by omega) h6.2.2
          refine run_seq ?_
          refine run_region (q_assign .n (.c rfl) rfl <| Lex.nil) ?_
          exact run_ret [] (.cons (.t rfl rfl) .nil) rfl trivial rfl
        · try simp only [Bool.and_eq_true, Bool.or_eq_true, Bool.not_eq_true', Bool.and_eq_false_iff, Bool.or_eq_false_iff, Bool.not_eq_false', decide_eq_true_eq, decide_eq_false_iff_not, beq_iff_eq, bne_iff_ne, beq_eq_false_iff_ne, bne_eq_false_iff_eq, Bool.true_and, ne_eq, Decidable.not_not, Int.not_lt, Int.not_le, Nat.not_lt, Nat.not_le, strB_nil, strB_nil', strB_nnil, strB_nnil'] at h6
          try have hf0h6 := szAirway_impA (by assumption) (by omega) (by omega) h6
          try have hf1h6 := szAirway_impA (by assumption) (by omega) (by omega) h6.1
          try have hf2h6 := szAirway_impA (by assumption) (by omega) (by omega) h6.2
          try have hf3h6 := szAirway_impA (by assumption) (by omega) (by omega) h6.1.1
          try have hf4h6 := szAirway_impA (by assumption) (by omega) (by omega) h6.1.2
          try have hf5h6 := szAirway_impA (by assumption) (by omega) (by omega) h6.2.1
          try have hf6h6 := szAirway_impA (by assumption) (by omega) (by omega) h6.2.2
          try have hf7h6 := szAirway_impB (by assumption) (by omega) (by omega) h6
          try have hf8h6 := szAirway_impB (by assumption) (by omega) (by omega) h6.1
          try have hf9h6 := szAirway_impB (by assumption) (by omega) (by omega) h6.2
          try have hf10h6 := szAirway_impB (by assumption) (by omega) (by omega) h6.1.1
          try have hf11h6 := szAirway_impB (by assumption) (by omega) (by omega) h6.1.2
          try have hf12h6 := szAirway_impB (by assumption) (by omega) (by omega) h6.2.1
          try have hf13h6 := szAirway_impB (by assumption) (by omega) (by omega) h6.2.2
          refine run_skip ?_
          refine run_endB ?_
          refine run_region (q_move .n (.t rfl) rfl <| q_add .n (.t rfl) (.c rfl) (fun _ => by omega) rfl <| q_assign .n (.t rfl) rfl <| Lex.nil) ?_
          exact run_again (m_laws_szAirway (at' a x1.2) x1.1, x1.2 + 1) ⟨by omega, by omega⟩ (by omega) (sub_of [] ⟨rfl, rfl, rfl, trivial⟩ trivial rfl)
      · try simp only [Bool.and_eq_true, Bool.or_eq_true, Bool.not_eq_true', Bool.and_eq_false_iff, Bool.or_eq_false_iff, Bool.not_eq_false', decide_eq_true_eq, decide_eq_false_iff_not, beq_iff_eq, bne_iff_ne, beq_eq_false_iff_ne, bne_eq_false_iff_eq, Bool.true_and, ne_eq, Decidable.not_not, Int.not_lt, Int.not_le, Nat.not_lt, Nat.not_le, strB_nil, strB_nil', strB_nnil, strB_nnil'] at h5
        refine run_exit rfl ?_
        exact run_cont hk3 (x1.1, x1.2) ⟨by omega, by omega, by omega⟩ (sub_of [] ⟨rfl, trivial⟩ trivial rfl)

/-! ### laws_szMine -/
theorem c_laws_szMine (a : gMine) (left : Int) : Con Try.prog 4 [.st [.int .i64 a.Junctions, .sl 7 (a.Airways.map gAirway.v)], .int .i64 left] [] (.int .i64 (m_laws_szMine a left)) ([]) := by
  refine con_intro (out := fun r : Int => ((.int .i64 r : V), ([] : List (Nat × Option O)))) (r := (m_laws_szMine a left)) Try.func4 rfl Try.ntmps4 rfl ?_
  refine run_factS (t := 0) 1 rfl rfl fun hl => ?_
  have l1 := hl; clear hl; simp only [List.length_map] at l1
  refine run_seq ?_
  refine run_region (q_box (l := 200) .n rfl (.t rfl) rfl rfl rfl rfl <| q_assign .n (.c rfl) rfl <| Lex.nil) ?_
  refine run_seq ?_
  refine run_region (q_fld_ow .n (.t rfl) fo_24_1 rfl <| q_ld1_ow .n (.t rfl) rfl (.inr rfl) (fun _ => rfl) rfl ic_22 rfl <| q_move .n (.t rfl) rfl <| q_call0 (full := false) .n .f en_22 (.cons (.t rfl) (.cons (.t rfl) .nil)) (.cons (.b (.a (.same rfl))) (.cons (.b (.a (.same rfl))) .nil)) (fun hg => c_laws_szAirwayS a.Airways left) rfl (fun h => Bool.noConfusion h) rfl <| q_assign .n (.t rfl) rfl <| Lex.nil) ?_
  refine run_seq ?_
  refine run_seq ?_
  refine run_region (q_move .n (.t rfl) rfl <| q_int .n (.t rfl) (.c rfl) rfl rfl <| Lex.nil) ?_
  refine run_cond (.t rfl) rfl (fun h2 => ?_) (fun h2 => ?_)
  · try simp only [Bool.and_eq_true, Bool.or_eq_true, Bool.not_eq_true', Bool.and_eq_false_iff, Bool.or_eq_false_iff, Bool.not_eq_false', decide_eq_true_eq, decide_eq_false_iff_not, beq_iff_eq, bne_iff_ne, beq_eq_false_iff_ne, bne_eq_false_iff_eq, Bool.true_and, ne_eq, Decidable.not_not, Int.not_lt, Int.not_le, Nat.not_lt, Nat.not_le, strB_nil, strB_nil', strB_nnil, strB_nnil'] at h2
    try have hf0h2 := szAirwayS_impA (by assumption) (by omega) (by omega) h2
    try have hf1h2 := szAirwayS_impA (by assumption) (by omega) (by omega) h2.1
    try have hf2h2 := szAirwayS_impA (by assumption) (by omega) (by omega) h2.2
    try have hf3h2 := szAirwayS_impA (by assumption) (by omega) (by omega) h2.1.1
    try have hf4h2 := szAirwayS_impA (by assumption) (by omega) (by omega) h2.1.2
    try have hf5h2 := szAirwayS_impA (by assumption) (by omega) (by omega) h2.2.1
    try have hf6h2 := szAirwayS_impA (by assumption) (by omega) (by omega) h2.2.2
    try have hf7h2 := szAirwayS_impB (by assumption) (by omega) (by omega) h2
    try have hf8h2 := szAirwayS_impB (by assumption) (by omega) (by omega) h2.1
    try have hf9h2 := szAirwayS_impB (by assumption) (by omega) (by omega) h2.2
    try have hf10h2 := szAirwayS_impB (by assumption) (by omega) (by omega) h2.1.1
    try have hf11h2 := szAirwayS_impB (by assumption) (by omega) (by omega) h2.1.2
    try have hf12h2 := szAirwayS_impB (by assumption) (by omega) (by omega) h2.2.1
    try have hf13h2 := szAirwayS_impB (by assumption) (by omega) (by omega) h2.2.2
    refine run_seq ?_
    refine run_region (q_assign .n (.c rfl) rfl <| Lex.nil) ?_
    exact run_ret [] (.cons (.t rfl rfl) .nil) rfl trivial rfl
  · try simp only [Bool.and_eq_true, Bool.or_eq_true, Bool.not_eq_true', Bool.and_eq_false_iff, Bool.or_eq_false_iff, Bool.not_eq_false', decide_eq_true_eq, decide_eq_false_iff_not, beq_iff_eq, bne_iff_ne, beq_eq_false_iff_ne, bne_eq_false_iff_eq, Bool.true_and, ne_eq, Decidable.not_not, Int.not_lt, Int.not_le, Nat.not_lt, Nat.not_le, strB_nil, strB_nil', strB_nnil, strB_nnil'] at h2
    try have hf0h2 := szAirwayS_impA (by assumption) (by omega) (by omega) h2
    try have hf1h2 := szAirwayS_impA (by assumption) (by omega) (by omega) h2.1
    try have hf2h2 := szAirwayS_impA (by assumption) (by omega) (by omega) h2.2
    try have hf3h2 := szAirwayS_impA (by assumption) (by omega) (by omega) h2.1.1
    try have hf4h2 := szAirwayS_impA (by assumption) (by omega) (by omega) h2.1.2
    try have hf5h2 := szAirwayS_impA (by assumption) (by omega) (by omega) h2.2.1
    try have hf6h2 := szAirwayS_impA (by assumption) (by omega) (by omega) h2.2.2
    try have hf7h2 := szAirwayS_impB (by assumption) (by omega) (by omega) h2
    try have hf8h2 := szAirwayS_impB (by assumption) (by omega) (by omega) h2.1
    try have hf9h2 := szAirwayS_impB (by assumption) (by omega) (by omega) h2.2
    try have hf10h2 := szAirwayS_impB (by assumption) (by omega) (by omega) h2.1.1
    try have hf11h2 := szAirwayS_impB (by assumption) (by omega) (by omega) h2.1.2
    try have hf12h2 := szAirwayS_impB (by assumption) (by omega) (by omega) h2.2.1
    try have hf13h2 := szAirwayS_impB (by assumption) (by omega) (by omega) h2.2.2
    refine run_skip ?_
    refine run_seq ?_
    refine run_region (q_move .n (.t rfl) rfl <| q_assign .n (.t rfl) rfl <| Lex.nil) ?_
    exact run_ret [] (.cons (.t rfl rfl) .nil) rfl trivial rfl

/-! ### laws_szCrew -/
theorem c_laws_szCrew (a : gCrew) (left : Int) : Con Try.prog 23 [.st [.str a.Id, .int .i64 a.Junction, .int .i64 a.Speed], .int .i64 left] [] (.int .i64 (m_laws_szCrew a left)) ([]) := by
  refine con_intro (out := fun r : Int => ((.int .i64 r : V), ([] : List (Nat × Option O)))) (r := (m_laws_szCrew a left)) Try.func23 rfl Try.ntmps23 rfl ?_
  refine run_seq ?_
  refine run_region (q_box (l := 200) .n rfl (.t rfl) rfl rfl rfl rfl <| q_assign .n (.c rfl) rfl <| Lex.nil) ?_
  refine run_seq ?_
  refine run_region (q_move .n (.t rfl) rfl <| q_fld_ow .n (.t rfl) fo_54_0 rfl <| q_ld1_ow .n (.t rfl) rfl (.inr rfl) (fun _ => rfl) rfl ic_9 rfl <| q_len .n (.t rfl) rfl rfl st_9 rfl <| q_int .n (.t rfl) (.t rfl) rfl rfl <| q_assign .n (.t rfl) rfl <| Lex.nil) ?_
  refine run_seq ?_
  refine run_seq ?_
  refine run_region (q_move .n (.t rfl) rfl <| q_int .n (.t rfl) (.c rfl) rfl rfl <| Lex.nil) ?_
  refine run_cond (.t rfl) rfl (fun h1 => ?_) (fun h1 => ?_)
  · try simp only [Bool.and_eq_true, Bool.or_eq_true, Bool.not_eq_true', Bool.and_eq_false_iff, Bool.or_eq_false_iff, Bool.not_eq_false', decide_eq_true_eq, decide_eq_false_iff_not, beq_iff_eq, bne_iff_ne, beq_eq_false_iff_ne, bne_eq_false_iff_eq, Bool.true_and, ne_eq, Decidable.not_not, Int.not_lt, Int.not_le, Nat.not_lt, Nat.not_le, strB_nil, strB_nil', strB_nnil, strB_nnil'] at h1
    refine run_seq ?_
    refine run_region (q_assign .n (.c rfl) rfl <| Lex.nil) ?_
    exact run_ret [] (.cons (.t rfl rfl) .nil) rfl trivial rfl
  · try simp only [Bool.and_eq_true, Bool.or_eq_true, Bool.not_eq_true', Bool.and_eq_false_iff, Bool.or_eq_false_iff, Bool.not_eq_false', decide_eq_true_eq, decide_eq_false_iff_not, beq_iff_eq, bne_iff_ne, beq_eq_false_iff_ne, bne_eq_false_iff_eq, Bool.true_and, ne_eq, Decidable.not_not, Int.not_lt, Int.not_le, Nat.not_lt, Nat.not_le, strB_nil, strB_nil', strB_nnil, strB_nnil'] at h1
    refine run_skip ?_
    refine run_seq ?_
    refine run_region (q_move .n (.t rfl) rfl <| q_assign .n (.t rfl) rfl <| Lex.nil) ?_
    exact run_ret [] (.cons (.t rfl rfl) .nil) rfl trivial rfl

/-! ### laws_szCrewS -/
theorem c_laws_szCrewS (a : List gCrew) (left : Int) : Con Try.prog 5 [.sl 3 (a.map gCrew.v), .int .i64 left] [] (.int .i64 (m_laws_szCrewS a left)) ([]) := by
  refine con_intro (out := fun r : Int => ((.int .i64 r : V), ([] : List (Nat × Option O)))) (r := (m_laws_szCrewS a left)) Try.func5 rfl Try.ntmps5 rfl ?_
  refine run_fact (t := 0) rfl fun hl => ?_
  have l1 := hl; clear hl; simp only [List.length_map] at l1
  refine run_seq ?_
  refine run_region (q_assign .n (.c rfl) rfl <| Lex.nil) ?_
  refine run_seq ?_
  refine run_region (q_move .n (.t rfl) rfl <| q_move .n (.t rfl) rfl <| q_len .n (.t rfl) rfl len_map ss_26 rfl <| q_int .n (.t rfl) (.t rfl) rfl rfl <| q_assign .n (.t rfl) rfl <| Lex.nil) ?_
  refine run_seq ?_
  refine run_seq ?_
  refine run_region (q_move .n (.t rfl) rfl <| q_int .n (.t rfl) (.c rfl) rfl rfl <| Lex.nil) ?_
  refine run_cond (.t rfl) rfl (fun h2 => ?_) (fun h2 => ?_)
  · try simp only [Bool.and_eq_true, Bool.or_eq_true, Bool.not_eq_true', Bool.and_eq_false_iff, Bool.or_eq_false_iff, Bool.not_eq_false', decide_eq_true_eq, decide_eq_false_iff_not, beq_iff_eq, bne_iff_ne, beq_eq_false_iff_ne, bne_eq_false_iff_eq, Bool.true_and, ne_eq, Decidable.not_not, Int.not_lt, Int.not_le, Nat.not_lt, Nat.not_le, strB_nil, strB_nil', strB_nnil, strB_nnil'] at h2
    refine run_seq ?_
    refine run_region (q_assign .n (.c rfl) rfl <| Lex.nil) ?_
    exact run_ret [] (.cons (.t rfl rfl) .nil) rfl trivial rfl
  · try simp only [Bool.and_eq_true, Bool.or_eq_true, Bool.not_eq_true', Bool.and_eq_false_iff, Bool.or_eq_false_iff, Bool.not_eq_false', decide_eq_true_eq, decide_eq_false_iff_not, beq_iff_eq, bne_iff_ne, beq_eq_false_iff_ne, bne_eq_false_iff_eq, Bool.true_and, ne_eq, Decidable.not_not, Int.not_lt, Int.not_le, Nat.not_lt, Nat.not_le, strB_nil, strB_nil', strB_nnil, strB_nnil'] at h2
    refine run_skip ?_
    refine run_seq ?_
    refine run_seq ?_
    refine run_region (q_assign .n (.c rfl) rfl <| Lex.nil) ?_
    refine run_block ?_
    refine run_LOOP (m_laws_szCrewS_b1 a left) _ _ _ rfl (fun (x1 : Int × Int) => 0 ≤ x1.2 ∧ x1.2 ≤ (a.length : Int)) (fun x1 => 0 ≤ x1.2 ∧ x1.2 ≤ (a.length : Int) ∧ (a.length : Int) ≤ x1.2) (fun x1 => ((a.length : Int) - x1.2 : Int).toNat) (fun x1 => ⟨[(0, some (true, .sl 3 (a.map gCrew.v))), (1, some (true, .int .i64 x1.1)), (5, some (true, .int .i64 x1.2))], []⟩) (fun x1 => ⟨[(1, some (true, .int .i64 x1.1))], []⟩) ⟨by omega, by omega⟩ (by omega) (sub_of [] ⟨rfl, rfl, rfl, trivial⟩ trivial rfl) ?_ ?_
    · intro x1 i7
      obtain ⟨e8, e9, e10⟩ := i7
      try dsimp only at *
      refine run_seq ?_
      refine run_region (q_move .n (.t rfl) rfl <| q_assign .n (.t rfl) rfl <| Lex.nil) ?_
      exact run_ret [] (.cons (.t rfl rfl) .nil) rfl trivial rfl
    · intro rec1 k1 hk3 x1 i4
      obtain ⟨e11, e12⟩ := i4
      try dsimp only at *
      refine run_seq ?_
      refine run_seq ?_
      refine run_region (q_move .n (.t rfl) rfl <| q_move .n (.t rfl) rfl <| q_len .n (.t rfl) rfl len_map ss_26 rfl <| q_int .n (.t rfl) (.t rfl) rfl rfl <| Lex.nil) ?_
      refine run_cond (.t rfl) rfl (fun h5 => ?_) (fun h5 => ?_)
      · try simp only [Bool.and_eq_true, Bool.or_eq_true, Bool.not_eq_true', Bool.and_eq_false_iff, Bool.or_eq_false_iff, Bool.not_eq_false', decide_eq_true_eq, decide_eq_false_iff_not, beq_iff_eq, bne_iff_ne, beq_eq_false_iff_ne, bne_eq_false_iff_eq, Bool.true_and, ne_eq, Decidable.not_not, Int.not_lt, Int.not_le, Nat.not_lt, Nat.not_le, strB_nil, strB_nil', strB_nnil, strB_nnil'] at h5
        refine run_skip ?_
        refine run_seq ?_
        refine run_block ?_
        refine run_seq ?_
        refine run_region (q_move .n (.t rfl) rfl <| q_move .n (.t rfl) rfl <| q_idx_rm .n (.t rfl) (.t rfl) sl_26 (fun _ => by omega) rfl <| q_ldN_ro .n (.t rfl) ag_54 rfl rfl rfl <| q_move .n (.t rfl) rfl <| q_call0 (full := false) .n .f en_23 (.cons (.t rfl) (.cons (.t rfl) .nil)) (.cons (.sts rfl) (.cons (.b (.a (.same rfl))) .nil)) (fun hg => c_laws_szCrew (at' a x1.2) x1.1) rfl (fun h => Bool.noConfusion h) rfl <| q_assign .n (.t rfl) rfl <| Lex.nil) ?_
        refine run_seq ?_
        refine run_region (q_move .n (.t rfl) rfl <| q_int .n (.t rfl) (.c rfl) rfl rfl <| Lex.nil) ?_
        refine run_cond (.t rfl) rfl (fun h6 => ?_) (fun h6 => ?_)
        · try simp only [Bool.and_eq_true, Bool.or_eq_true, Bool.not_eq_true', Bool.and_eq_false_iff, Bool.or_eq_false_iff, Bool.not_eq_false', decide_eq_true_eq, decide_eq_false_iff_not, beq_iff_eq, bne_iff_ne, beq_eq_false_iff_ne, bne_eq_false_iff_eq, Bool.true_and, ne_eq, Decidable.not_not, Int.not_lt, Int.not_le, Nat.not_lt, Nat.not_le, strB_nil, strB_nil', strB_nnil, strB_nnil'] at h6
          try have hf0h6 := szCrew_impA (by assumption) (by omega) (by omega) h6
          try have hf1h6 := szCrew_impA (by assumption) (by omega) (by omega) h6.1
          try have hf2h6 := szCrew_impA (by assumption) (by omega) (by omega) h6.2
          try have hf3h6 := szCrew_impA (by assumption) (by omega) (by omega) h6.1.1
          try have hf4h6 := szCrew_impA (by assumption) (by omega) (by omega) h6.1.2
          try have hf5h6 := szCrew_impA (by assumption) (by omega) (by omega) h6.2.1
          try have hf6h6 := szCrew_impA (by assumption) (by omega) (by omega) h6.2.2
          try have hf7h6 := szCrew_impB (by assumption) (by omega) (by omega) h6
          try have hf8h6 := szCrew_impB (by assumption) (by omega) (by omega) h6.1
          try have hf9h6 := szCrew_impB (by assumption) (by omega) (by omega) h6.2
          try have hf10h6 := szCrew_impB (by assumption) (by omega) (by omega) h6.1.1
          try have hf11h6 := szCrew_impB (by assumption) (by omega) (by omega) h6.1.2
          try have hf12h6 := szCrew_impB (by assumption) (by omega) (by omega) h6.2.1
          try have hf13h6 := szCrew_impB (by assumption) (by omega) (by omega) h6.2.2
          refine run_seq ?_
          refine run_region (q_assign .n (.c rfl) rfl <| Lex.nil) ?_
          exact run_ret [] (.cons (.t rfl rfl) .nil) rfl trivial rfl
        · try simp only [Bool.and_eq_true, Bool.or_eq_true, Bool.not_eq_true', Bool.and_eq_false_iff, Bool.or_eq_false_iff, Bool.not_eq_false', decide_eq_true_eq, decide_eq_false_iff_not, beq_iff_eq, bne_iff_ne, beq_eq_false_iff_ne, bne_eq_false_iff_eq, Bool.true_and, ne_eq, Decidable.not_not, Int.not_lt, Int.not_le, Nat.not_lt, Nat.not_le, strB_nil, strB_nil', strB_nnil, strB_nnil'] at h6
          try have hf0h6 := szCrew_impA (by assumption) (by omega) (by omega) h6
          try have hf1h6 := szCrew_impA (by assumption) (by omega) (by omega) h6.1
          try have hf2h6 := szCrew_impA (by assumption) (by omega) (by omega) h6.2
          try have hf3h6 := szCrew_impA (by assumption) (by omega) (by omega) h6.1.1
          try have hf4h6 := szCrew_impA (by assumption) (by omega) (by omega) h6.1.2
          try have hf5h6 := szCrew_impA (by assumption) (by omega) (by omega) h6.2.1
          try have hf6h6 := szCrew_impA (by assumption) (by omega) (by omega) h6.2.2
          try have hf7h6 := szCrew_impB (by assumption) (by omega) (by omega) h6
          try have hf8h6 := szCrew_impB (by assumption) (by omega) (by omega) h6.1
          try have hf9h6 := szCrew_impB (by assumption) (by omega) (by omega) h6.2
          try have hf10h6 := szCrew_impB (by assumption) (by omega) (by omega) h6.1.1
          try have hf11h6 := szCrew_impB (by assumption) (by omega) (by omega) h6.1.2
          try have hf12h6 := szCrew_impB (by assumption) (by omega) (by omega) h6.2.1
          try have hf13h6 := szCrew_impB (by assumption) (by omega) (by omega) h6.2.2
          refine run_skip ?_
          refine run_endB ?_
          refine run_region (q_move .n (.t rfl) rfl <| q_add .n (.t rfl) (.c rfl) (fun _ => by omega) rfl <| q_assign .n (.t rfl) rfl <| Lex.nil) ?_
          exact run_again (m_laws_szCrew (at' a x1.2) x1.1, x1.2 + 1) ⟨by omega, by omega⟩ (by omega) (sub_of [] ⟨rfl, rfl, rfl, trivial⟩ trivial rfl)
      · try simp only [Bool.and_eq_true, Bool.or_eq_true, Bool.not_eq_true', Bool.and_eq_false_iff, Bool.or_eq_false_iff, Bool.not_eq_false', decide_eq_true_eq, decide_eq_false_iff_not, beq_iff_eq, bne_iff_ne, beq_eq_false_iff_ne, bne_eq_false_iff_eq, Bool.true_and, ne_eq, Decidable.not_not, Int.not_lt, Int.not_le, Nat.not_lt, Nat.not_le, strB_nil, strB_nil', strB_nnil, strB_nnil'] at h5
        refine run_exit rfl ?_
        exact run_cont hk3 (x1.1, x1.2) ⟨by omega, by omega, by omega⟩ (sub_of [] ⟨rfl, trivial⟩ trivial rfl)

/-! ### laws_szRefuge -/
theorem c_laws_szRefuge (a : gRefuge) (left : Int) : Con Try.prog 24 [.st [.str a.Id, .int .i64 a.Junction, .int .i64 a.Places, .int .i64 a.Air], .int .i64 left] [] (.int .i64 (m_laws_szRefuge a left)) ([]) := by
  refine con_intro (out := fun r : Int => ((.int .i64 r : V), ([] : List (Nat × Option O)))) (r := (m_laws_szRefuge a left)) Try.func24 rfl Try.ntmps24 rfl ?_
  refine run_seq ?_
  refine run_region (q_box (l := 200) .n rfl (.t rfl) rfl rfl rfl rfl <| q_assign .n (.c rfl) rfl <| Lex.nil) ?_
  refine run_seq ?_
  refine run_region (q_move .n (.t rfl) rfl <| q_fld_ow .n (.t rfl) fo_57_0 rfl <| q_ld1_ow .n (.t rfl) rfl (.inr rfl) (fun _ => rfl) rfl ic_9 rfl <| q_len .n (.t rfl) rfl rfl st_9 rfl <| q_int .n (.t rfl) (.t rfl) rfl rfl <| q_assign .n (.t rfl) rfl <| Lex.nil) ?_
  refine run_seq ?_
  refine run_seq ?_
  refine run_region (q_move .n (.t rfl) rfl <| q_int .n (.t rfl) (.c rfl) rfl rfl <| Lex.nil) ?_
  refine run_cond (.t rfl) rfl (fun h1 => ?_) (fun h1 => ?_)
  · try simp only [Bool.and_eq_true, Bool.or_eq_true, Bool.not_eq_true', Bool.and_eq_false_iff, Bool.or_eq_false_iff, Bool.not_eq_false', decide_eq_true_eq, decide_eq_false_iff_not, beq_iff_eq, bne_iff_ne, beq_eq_false_iff_ne, bne_eq_false_iff_eq, Bool.true_and, ne_eq, Decidable.not_not, Int.not_lt, Int.not_le, Nat.not_lt, Nat.not_le, strB_nil, strB_nil', strB_nnil, strB_nnil'] at h1
    refine run_seq ?_
    refine run_region (q_assign .n (.c rfl) rfl <| Lex.nil) ?_
    exact run_ret [] (.cons (.t rfl rfl) .nil) rfl trivial rfl
  · try simp only [Bool.and_eq_true, Bool.or_eq_true, Bool.not_eq_true', Bool.and_eq_false_iff, Bool.or_eq_false_iff, Bool.not_eq_false', decide_eq_true_eq, decide_eq_false_iff_not, beq_iff_eq, bne_iff_ne, beq_eq_false_iff_ne, bne_eq_false_iff_eq, Bool.true_and, ne_eq, Decidable.not_not, Int.not_lt, Int.not_le, Nat.not_lt, Nat.not_le, strB_nil, strB_nil', strB_nnil, strB_nnil'] at h1
    refine run_skip ?_
    refine run_seq ?_
    refine run_region (q_move .n (.t rfl) rfl <| q_assign .n (.t rfl) rfl <| Lex.nil) ?_
    exact run_ret [] (.cons (.t rfl rfl) .nil) rfl trivial rfl

/-! ### laws_szRefugeS -/
theorem c_laws_szRefugeS (a : List gRefuge) (left : Int) : Con Try.prog 6 [.sl 4 (a.map gRefuge.v), .int .i64 left] [] (.int .i64 (m_laws_szRefugeS a left)) ([]) := by
  refine con_intro (out := fun r : Int => ((.int .i64 r : V), ([] : List (Nat × Option O)))) (r := (m_laws_szRefugeS a left)) Try.func6 rfl Try.ntmps6 rfl ?_
  refine run_fact (t := 0) rfl fun hl => ?_
  have l1 := hl; clear hl; simp only [List.length_map] at l1
  refine run_seq ?_
  refine run_region (q_assign .n (.c rfl) rfl <| Lex.nil) ?_
  refine run_seq ?_
  refine run_region (q_move .n (.t rfl) rfl <| q_move .n (.t rfl) rfl <| q_len .n (.t rfl) rfl len_map ss_27 rfl <| q_int .n (.t rfl) (.t rfl) rfl rfl <| q_assign .n (.t rfl) rfl <| Lex.nil) ?_
  refine run_seq ?_
  refine run_seq ?_
  refine run_region (q_move .n (.t rfl) rfl <| q_int .n (.t rfl) (.c rfl) rfl rfl <| Lex.nil) ?_
  refine run_cond (.t rfl) rfl (fun h2 => ?_) (fun h2 => ?_)
  · try simp only [Bool.and_eq_true, Bool.or_eq_true, Bool.not_eq_true', Bool.and_eq_false_iff, Bool.or_eq_false_iff, Bool.not_eq_false', decide_eq_true_eq, decide_eq_false_iff_not, beq_iff_eq, bne_iff_ne, beq_eq_false_iff_ne, bne_eq_false_iff_eq, Bool.true_and, ne_eq, Decidable.not_not, Int.not_lt, Int.not_le, Nat.not_lt, Nat.not_le, strB_nil, strB_nil', strB_nnil, strB_nnil'] at h2
    refine run_seq ?_
    refine run_region (q_assign .n (.c rfl) rfl <| Lex.nil) ?_
    exact run_ret [] (.cons (.t rfl rfl) .nil) rfl trivial rfl
  · try simp only [Bool.and_eq_true, Bool.or_eq_true, Bool.not_eq_true', Bool.and_eq_false_iff, Bool.or_eq_false_iff, Bool.not_eq_false', decide_eq_true_eq, decide_eq_false_iff_not, beq_iff_eq, bne_iff_ne, beq_eq_false_iff_ne, bne_eq_false_iff_eq, Bool.true_and, ne_eq, Decidable.not_not, Int.not_lt, Int.not_le, Nat.not_lt, Nat.not_le, strB_nil, strB_nil', strB_nnil, strB_nnil'] at h2
    refine run_skip ?_
    refine run_seq ?_
    refine run_seq ?_
    refine run_region (q_assign .n (.c rfl) rfl <| Lex.nil) ?_
    refine run_block ?_
    refine run_LOOP (m_laws_szRefugeS_b1 a left) _ _ _ rfl (fun (x1 : Int × Int) => 0 ≤ x1.2 ∧ x1.2 ≤ (a.length : Int)) (fun x1 => 0 ≤ x1.2 ∧ x1.2 ≤ (a.length : Int) ∧ (a.length : Int) ≤ x1.2) (fun x1 => ((a.length : Int) - x1.2 : Int).toNat) (fun x1 => ⟨[(0, some (true, .sl 4 (a.map gRefuge.v))), (1, some (true, .int .i64 x1.1)), (5, some (true, .int .i64 x1.2))], []⟩) (fun x1 => ⟨[(1, some (true, .int .i64 x1.1))], []⟩) ⟨by omega, by omega⟩ (by omega) (sub_of [] ⟨rfl, rfl, rfl, trivial⟩ trivial rfl) ?_ ?_
    · intro x1 i7
      obtain ⟨e8, e9, e10⟩ := i7
      try dsimp only at *
      refine run_seq ?_
      refine run_region (q_move .n (.t rfl) rfl <| q_assign .n (.t rfl) rfl <| Lex.nil) ?_
      exact run_ret [] (.cons (.t rfl rfl) .nil) rfl trivial rfl
    · intro rec1 k1 hk3 x1 i4
      obtain ⟨e11, e12⟩ := i4
      try dsimp only at *
      refine run_seq ?_
      refine run_seq ?_
      refine run_region (q_move .n (.t rfl) rfl <| q_move .n (.t rfl) rfl <| q_len .n (.t rfl) rfl len_map ss_27 rfl <| q_int .n (.t rfl) (.t rfl) rfl rfl <| Lex.nil) ?_
      refine run_cond (.t rfl) rfl (fun h5 => ?_) (fun h5 => ?_)
      · try simp only [Bool.and_eq_true, Bool.or_eq_true, Bool.not_eq_true', Bool.and_eq_false_iff, Bool.or_eq_false_iff, Bool.not_eq_false', decide_eq_true_eq, decide_eq_false_iff_not, beq_iff_eq, bne_iff_ne, beq_eq_false_iff_ne, bne_eq_false_iff_eq, Bool.true_and, ne_eq, Decidable.not_not, Int.not_lt, Int.not_le, Nat.not_lt, Nat.not_le, strB_nil, strB_nil', strB_nnil, strB_nnil'] at h5
        refine run_skip ?_
        refine run_seq ?_
        refine run_block ?_
        refine run_seq ?_
        refine run_region (q_move .n (.t rfl) rfl <| q_move .n (.t rfl) rfl <| q_idx_rm .n (.t rfl) (.t rfl) sl_27 (fun _ => by omega) rfl <| q_ldN_ro .n (.t rfl) ag_57 rfl rfl rfl <| q_move .n (.t rfl) rfl <| q_call0 (full := false) .n .f en_24 (.cons (.t rfl) (.cons (.t rfl) .nil)) (.cons (.sts rfl) (.cons (.b (.a (.same rfl))) .nil)) (fun hg => c_laws_szRefuge (at' a x1.2) x1.1) rfl (fun h => Bool.noConfusion h) rfl <| q_assign .n (.t rfl) rfl <| Lex.nil) ?_
        refine run_seq ?_
        refine run_region (q_move .n (.t rfl) rfl <| q_int .n (.t rfl) (.c rfl) rfl rfl <| Lex.nil) ?_
        refine run_cond (.t rfl) rfl (fun h6 => ?_) (fun h6 => ?_)
        · try simp only [Bool.and_eq_true, Bool.or_eq_true, Bool.not_eq_true', Bool.and_eq_false_iff, Bool.or_eq_false_iff, Bool.not_eq_false', decide_eq_true_eq, decide_eq_false_iff_not, beq_iff_eq, bne_iff_ne, beq_eq_false_iff_ne, bne_eq_false_iff_eq, Bool.true_and, ne_eq, Decidable.not_not, Int.not_lt, Int.not_le, Nat.not_lt, Nat.not_le, strB_nil, strB_nil', strB_nnil, strB_nnil'] at h6
          try have hf0h6 := szRefuge_impA (by assumption) (by omega) (by omega) h6
          try have hf1h6 := szRefuge_impA (by assumption) (by omega) (by omega) h6.1
          try have hf2h6 := szRefuge_impA (by assumption) (by omega) (by omega) h6.2
          try have hf3h6 := szRefuge_impA (by assumption) (by omega) (by omega) h6.1.1
          try have hf4h6 := szRefuge_impA (by assumption) (by omega) (by omega) h6.1.2
          try have hf5h6 := szRefuge_impA (by assumption) (by omega) (by omega) h6.2.1
          try have hf6h6 := szRefuge_impA (by assumption) (by omega) (by omega) h6.2.2
          try have hf7h6 := szRefuge_impB (by assumption) (by omega) (by omega) h6
          try have hf8h6 := szRefuge_impB (by assumption) (by omega) (by omega) h6.1
          try have hf9h6 := szRefuge_impB (by assumption) (by omega) (by omega) h6.2
          try have hf10h6 := szRefuge_impB (by assumption) (by omega) (by omega) h6.1.1
          try have hf11h6 := szRefuge_impB (by assumption) (by omega) (by omega) h6.1.2
          try have hf12h6 := szRefuge_impB (by assumption) (by omega) (by omega) h6.2.1
          try have hf13h6 := szRefuge_impB (by assumption) (by omega) (by omega) h6.2.2
          refine run_seq ?_
          refine run_region (q_assign .n (.c rfl) rfl <| Lex.nil) ?_
          exact run_ret [] (.cons (.t rfl rfl) .nil) rfl trivial rfl
        · try simp only [Bool.and_eq_true, Bool.or_eq_true, Bool.not_eq_true', Bool.and_eq_false_iff, Bool.or_eq_false_iff, Bool.not_eq_false', decide_eq_true_eq, decide_eq_false_iff_not, beq_iff_eq, bne_iff_ne, beq_eq_false_iff_ne, bne_eq_false_iff_eq, Bool.true_and, ne_eq, Decidable.not_not, Int.not_lt, Int.not_le, Nat.not_lt, Nat.not_le, strB_nil, strB_nil', strB_nnil, strB_nnil'] at h6
          try have hf0h6 := szRefuge_impA (by assumption) (by omega) (by omega) h6
          try have hf1h6 := szRefuge_impA (by assumption) (by omega) (by omega) h6.1
          try have hf2h6 := szRefuge_impA (by assumption) (by omega) (by omega) h6.2
          try have hf3h6 := szRefuge_impA (by assumption) (by omega) (by omega) h6.1.1
          try have hf4h6 := szRefuge_impA (by assumption) (by omega) (by omega) h6.1.2
          try have hf5h6 := szRefuge_impA (by assumption) (by omega) (by omega) h6.2.1
          try have hf6h6 := szRefuge_impA (by assumption) (by omega) (by omega) h6.2.2
          try have hf7h6 := szRefuge_impB (by assumption) (by omega) (by omega) h6
          try have hf8h6 := szRefuge_impB (by assumption) (by omega) (by omega) h6.1
          try have hf9h6 := szRefuge_impB (by assumption) (by omega) (by omega) h6.2
          try have hf10h6 := szRefuge_impB (by assumption) (by omega) (by omega) h6.1.1
          try have hf11h6 := szRefuge_impB (by assumption) (by omega) (by omega) h6.1.2
          try have hf12h6 := szRefuge_impB (by assumption) (by omega) (by omega) h6.2.1
          try have hf13h6 := szRefuge_impB (by assumption) (by omega) (by omega) h6.2.2
          refine run_skip ?_
          refine run_endB ?_
          refine run_region (q_move .n (.t rfl) rfl <| q_add .n (.t rfl) (.c rfl) (fun _ => by omega) rfl <| q_assign .n (.t rfl) rfl <| Lex.nil) ?_
          exact run_again (m_laws_szRefuge (at' a x1.2) x1.1, x1.2 + 1) ⟨by omega, by omega⟩ (by omega) (sub_of [] ⟨rfl, rfl, rfl, trivial⟩ trivial rfl)
      · try simp only [Bool.and_eq_true, Bool.or_eq_true, Bool.not_eq_true', Bool.and_eq_false_iff, Bool.or_eq_false_iff, Bool.not_eq_false', decide_eq_true_eq, decide_eq_false_iff_not, beq_iff_eq, bne_iff_ne, beq_eq_false_iff_ne, bne_eq_false_iff_eq, Bool.true_and, ne_eq, Decidable.not_not, Int.not_lt, Int.not_le, Nat.not_lt, Nat.not_le, strB_nil, strB_nil', strB_nnil, strB_nnil'] at h5
        refine run_exit rfl ?_
        exact run_cont hk3 (x1.1, x1.2) ⟨by omega, by omega, by omega⟩ (sub_of [] ⟨rfl, trivial⟩ trivial rfl)

/-! ### spec_l00In -/
theorem c_spec_l00In (n_ : Int) (low : Int) (high : Int) : Con Try.prog 27 [.int .i64 n_, .int .i64 low, .int .i64 high] [] (.bool (m_spec_l00In n_ low high)) ([]) := by
  refine con_intro (out := fun r : Bool => ((.bool r : V), ([] : List (Nat × Option O)))) (r := (m_spec_l00In n_ low high)) Try.func27 rfl Try.ntmps27 rfl ?_
  refine run_seq ?_
  refine run_region (q_assign .n (.c rfl) rfl <| Lex.nil) ?_
  refine run_seq ?_
  refine run_region (q_move .n (.t rfl) rfl <| q_move .n (.t rfl) rfl <| q_int .n (.t rfl) (.t rfl) rfl rfl <| q_move .n (.t rfl) rfl <| q_move (.t rfl rfl) (.t rfl) rfl <| q_move (.t rfl rfl) (.t rfl) rfl <| q_int (.t rfl rfl) (.u rfl id) (.u rfl id) rfl rfl <| q_and .n (.t rfl) (.u rfl id) rfl <| q_assign .n (.t rfl) rfl <| Lex.nil) ?_
  exact run_ret [] (.cons (.t rfl rfl) .nil) rfl trivial rfl

/-! ### spec_l01Small -/
theorem c_spec_l01Small (c_ : Int) : Con Try.prog 84 [.int .u8 c_] [] (.bool (m_spec_l01Small c_)) ([]) := by
  refine con_intro (out := fun r : Bool => ((.bool r : V), ([] : List (Nat × Option O)))) (r := (m_spec_l01Small c_)) Try.func84 rfl Try.ntmps84 rfl ?_
  refine run_seq ?_
  refine run_region (q_assign .n (.c rfl) rfl <| Lex.nil) ?_
  refine run_seq ?_
  refine run_region (q_move .n (.t rfl) rfl <| q_int .n (.t rfl) (.c rfl) rfl rfl <| q_move .n (.t rfl) rfl <| q_move (.t rfl rfl) (.t rfl) rfl <| q_int (.t rfl rfl) (.u rfl id) (.c rfl) rfl rfl <| q_and .n (.t rfl) (.u rfl id) rfl <| q_assign .n (.t rfl) rfl <| Lex.nil) ?_
  exact run_ret [] (.cons (.t rfl rfl) .nil) rfl trivial rfl

/-! ### spec_l01Digit -/
theorem c_spec_l01Digit (c_ : Int) : Con Try.prog 85 [.int .u8 c_] [] (.bool (m_spec_l01Digit c_)) ([]) := by
  refine con_intro (out := fun r : Bool => ((.bool r : V), ([] : List (Nat × Option O)))) (r := (m_spec_l01Digit c_)) Try.func85 rfl Try.ntmps85 rfl ?_
  refine run_seq ?_
  refine run_region (q_assign .n (.c rfl) rfl <| Lex.nil) ?_
  refine run_seq ?_
  refine run_region (q_move .n (.t rfl) rfl <| q_int .n (.t rfl) (.c rfl) rfl rfl <| q_move .n (.t rfl) rfl <| q_move (.t rfl rfl) (.t rfl) rfl <| q_int (.t rfl rfl) (.u rfl id) (.c rfl) rfl rfl <| q_and .n (.t rfl) (.u rfl id) rfl <| q_assign .n (.t rfl) rfl <| Lex.nil) ?_
  exact run_ret [] (.cons (.t rfl rfl) .nil) rfl trivial rfl

/-! ### spec_l01Name -/
theorem c_spec_l01Name (s_ : List UInt8) : Con Try.prog 74 [.str s_] [] (.bool (m_spec_l01Name s_)) ([]) := by
  refine con_intro (out := fun r : Bool => ((.bool r : V), ([] : List (Nat × Option O)))) (r := (m_spec_l01Name s_)) Try.func74 rfl Try.ntmps74 rfl ?_
  refine run_seq ?_
  refine run_region (q_assign .n (.c rfl) rfl <| Lex.nil) ?_
  refine run_seq ?_
  refine run_seq ?_
  refine run_region (q_move .n (.t rfl) rfl <| q_strcmp .n (.t rfl) (.c rfl) rfl rfl <| q_move .n (.t rfl) rfl <| q_move (.f rfl rfl) (.t rfl) rfl <| q_len (.f rfl rfl) (.u rfl id) rfl rfl st_9 rfl <| q_int (.f rfl rfl) (.u rfl id) (.c rfl) rfl rfl <| q_or .n (.t rfl) (.u rfl id) rfl <| q_move .n (.t rfl) rfl <| q_move (.f rfl rfl) (.t rfl) rfl <| q_strat (.f rfl rfl) (.u rfl id) (.c rfl) st_9 (fun hg => by simp only [Bool.and_eq_true, Bool.or_eq_true, Bool.not_eq_true', Bool.and_eq_false_iff, Bool.or_eq_false_iff, Bool.not_eq_false', decide_eq_true_eq, decide_eq_false_iff_not, beq_iff_eq, bne_iff_ne, beq_eq_false_iff_ne, bne_eq_false_iff_eq, Bool.true_and, ne_eq, Decidable.not_not, Int.not_lt, Int.not_le, Nat.not_lt, Nat.not_le, strB_nil, strB_nil', strB_nnil, strB_nnil'] at hg; omega) rfl <| q_call0 (full := false) (.f rfl rfl) .f en_84 (.cons (.u rfl id) .nil) (.cons (.b (.a (.same rfl))) .nil) (fun hg => c_spec_l01Small (((s_.getD (0 : Int).toNat 0).toNat : Nat) : Int)) rfl (fun h => Bool.noConfusion h) rfl <| q_not (.f rfl rfl) (.u rfl id) rfl <| q_or .n (.t rfl) (.u rfl id) rfl <| Lex.nil) ?_
  refine run_cond (.t rfl) rfl (fun h1 => ?_) (fun h1 => ?_)
  · try simp only [Bool.and_eq_true, Bool.or_eq_true, Bool.not_eq_true', Bool.and_eq_false_iff, Bool.or_eq_false_iff, Bool.not_eq_false', decide_eq_true_eq, decide_eq_false_iff_not, beq_iff_eq, bne_iff_ne, beq_eq_false_iff_ne, bne_eq_false_iff_eq, Bool.true_and, ne_eq, Decidable.not_not, Int.not_lt, Int.not_le, Nat.not_lt, Nat.not_le, strB_nil, strB_nil', strB_nnil, strB_nnil'] at h1
    refine run_seq ?_
    refine run_region (q_assign .n (.c rfl) rfl <| Lex.nil) ?_
    exact run_ret [] (.cons (.t rfl rfl) .nil) rfl trivial rfl
  · try simp only [Bool.and_eq_true, Bool.or_eq_true, Bool.not_eq_true', Bool.and_eq_false_iff, Bool.or_eq_false_iff, Bool.not_eq_false', decide_eq_true_eq, decide_eq_false_iff_not, beq_iff_eq, bne_iff_ne, beq_eq_false_iff_ne, bne_eq_false_iff_eq, Bool.true_and, ne_eq, Decidable.not_not, Int.not_lt, Int.not_le, Nat.not_lt, Nat.not_le, strB_nil, strB_nil', strB_nnil, strB_nnil'] at h1
    refine run_skip ?_
    refine run_seq ?_
    refine run_seq ?_
    refine run_region (q_assign .n (.c rfl) rfl <| Lex.nil) ?_
    refine run_block ?_
    refine run_LOOP (m_spec_l01Name_b1 s_) _ _ _ rfl (fun (x1 : Int) => 0 ≤ x1 ∧ x1 ≤ (s_.length : Int)) (fun x1 => 0 ≤ x1 ∧ x1 ≤ (s_.length : Int) ∧ (s_.length : Int) ≤ x1) (fun x1 => ((s_.length : Int) - x1 : Int).toNat) (fun x1 => ⟨[(0, some (true, .str s_)), (3, some (true, .int .i64 x1))], []⟩) (fun x1 => ⟨[], []⟩) ⟨by omega, by omega⟩ (by omega) (sub_of [] ⟨rfl, rfl, trivial⟩ trivial rfl) ?_ ?_
    · intro x1 i6
      obtain ⟨e7, e8, e9⟩ := i6
      try dsimp only at *
      refine run_seq ?_
      refine run_region (q_assign .n (.c rfl) rfl <| Lex.nil) ?_
      exact run_ret [] (.cons (.t rfl rfl) .nil) rfl trivial rfl
    · intro rec1 k1 hk2 x1 i3
      obtain ⟨e10, e11⟩ := i3
      try dsimp only at *
      refine run_seq ?_
      refine run_seq ?_
      refine run_region (q_move .n (.t rfl) rfl <| q_move .n (.t rfl) rfl <| q_len .n (.t rfl) rfl rfl st_9 rfl <| q_int .n (.t rfl) (.t rfl) rfl rfl <| Lex.nil) ?_
      refine run_cond (.t rfl) rfl (fun h4 => ?_) (fun h4 => ?_)
      · try simp only [Bool.and_eq_true, Bool.or_eq_true, Bool.not_eq_true', Bool.and_eq_false_iff, Bool.or_eq_false_iff, Bool.not_eq_false', decide_eq_true_eq, decide_eq_false_iff_not, beq_iff_eq, bne_iff_ne, beq_eq_false_iff_ne, bne_eq_false_iff_eq, Bool.true_and, ne_eq, Decidable.not_not, Int.not_lt, Int.not_le, Nat.not_lt, Nat.not_le, strB_nil, strB_nil', strB_nnil, strB_nnil'] at h4
        refine run_skip ?_
        refine run_seq ?_
        refine run_block ?_
        refine run_seq ?_
        refine run_region (q_move .n (.t rfl) rfl <| q_move .n (.t rfl) rfl <| q_strat .n (.t rfl) (.t rfl) st_9 (fun _ => by omega) rfl <| q_call0 (full := false) .n .f en_84 (.cons (.t rfl) .nil) (.cons (.b (.a (.same rfl))) .nil) (fun hg => c_spec_l01Small (((s_.getD x1.toNat 0).toNat : Nat) : Int)) rfl (fun h => Bool.noConfusion h) rfl <| q_not .n (.t rfl) rfl <| q_move .n (.t rfl) rfl <| q_move (.t rfl rfl) (.t rfl) rfl <| q_move (.t rfl rfl) (.t rfl) rfl <| q_strat (.t rfl rfl) (.u rfl id) (.u rfl id) st_9 (fun hg => by simp only [Bool.and_eq_true, Bool.or_eq_true, Bool.not_eq_true', Bool.and_eq_false_iff, Bool.or_eq_false_iff, Bool.not_eq_false', decide_eq_true_eq, decide_eq_false_iff_not, beq_iff_eq, bne_iff_ne, beq_eq_false_iff_ne, bne_eq_false_iff_eq, Bool.true_and, ne_eq, Decidable.not_not, Int.not_lt, Int.not_le, Nat.not_lt, Nat.not_le, strB_nil, strB_nil', strB_nnil, strB_nnil'] at hg; omega) rfl <| q_call0 (full := false) (.t rfl rfl) .f en_85 (.cons (.u rfl id) .nil) (.cons (.b (.a (.same rfl))) .nil) (fun hg => c_spec_l01Digit (((s_.getD x1.toNat 0).toNat : Nat) : Int)) rfl (fun h => Bool.noConfusion h) rfl <| q_not (.t rfl rfl) (.u rfl id) rfl <| q_and .n (.t rfl) (.u rfl id) rfl <| Lex.nil) ?_
        refine run_cond (.t rfl) rfl (fun h5 => ?_) (fun h5 => ?_)
        · try simp only [Bool.and_eq_true, Bool.or_eq_true, Bool.not_eq_true', Bool.and_eq_false_iff, Bool.or_eq_false_iff, Bool.not_eq_false', decide_eq_true_eq, decide_eq_false_iff_not, beq_iff_eq, bne_iff_ne, beq_eq_false_iff_ne, bne_eq_false_iff_eq, Bool.true_and, ne_eq, Decidable.not_not, Int.not_lt, Int.not_le, Nat.not_lt, Nat.not_le, strB_nil, strB_nil', strB_nnil, strB_nnil'] at h5
          refine run_seq ?_
          refine run_region (q_assign .n (.c rfl) rfl <| Lex.nil) ?_
          exact run_ret [] (.cons (.t rfl rfl) .nil) rfl trivial rfl
        · try simp only [Bool.and_eq_true, Bool.or_eq_true, Bool.not_eq_true', Bool.and_eq_false_iff, Bool.or_eq_false_iff, Bool.not_eq_false', decide_eq_true_eq, decide_eq_false_iff_not, beq_iff_eq, bne_iff_ne, beq_eq_false_iff_ne, bne_eq_false_iff_eq, Bool.true_and, ne_eq, Decidable.not_not, Int.not_lt, Int.not_le, Nat.not_lt, Nat.not_le, strB_nil, strB_nil', strB_nnil, strB_nnil'] at h5
          refine run_skip ?_
          refine run_endB ?_
          refine run_region (q_move .n (.t rfl) rfl <| q_add .n (.t rfl) (.c rfl) (fun _ => by omega) rfl <| q_assign .n (.t rfl) rfl <| Lex.nil) ?_
          exact run_again (x1 + 1) ⟨by omega, by omega⟩ (by omega) (sub_of [] ⟨rfl, rfl, trivial⟩ trivial rfl)
      · try simp only [Bool.and_eq_true, Bool.or_eq_true, Bool.not_eq_true', Bool.and_eq_false_iff, Bool.or_eq_false_iff, Bool.not_eq_false', decide_eq_true_eq, decide_eq_false_iff_not, beq_iff_eq, bne_iff_ne, beq_eq_false_iff_ne, bne_eq_false_iff_eq, Bool.true_and, ne_eq, Decidable.not_not, Int.not_lt, Int.not_le, Nat.not_lt, Nat.not_le, strB_nil, strB_nil', strB_nnil, strB_nnil'] at h4
        refine run_exit rfl ?_
        exact run_cont hk2 x1 ⟨by omega, by omega, by omega⟩ (sub_of [] trivial trivial rfl)

/-! ### spec_l03Ok -/
theorem c_spec_l03Ok (a : gAirway) : Con Try.prog 72 [.rp [.str a.Id, .int .i64 a.From, .int .i64 a.To, .int .i64 a.Length, .int .i64 a.Section, .int .i64 a.Friction, .int .i64 a.Shock]] [] (.bool (m_spec_l03Ok a)) ([]) := by
  refine con_intro (out := fun r : Bool => ((.bool r : V), ([] : List (Nat × Option O)))) (r := (m_spec_l03Ok a)) Try.func72 rfl Try.ntmps72 rfl ?_
  refine run_seq ?_
  refine run_region (q_assign .n (.c rfl) rfl <| Lex.nil) ?_
  refine run_seq ?_
  refine run_seq ?_
  refine run_draw fmo (q_move .n (.t rfl) rfl <| q_nilc_ro .n (.t rfl) rfl <| q_fld_ro .n (.t rfl) fo_99_0 rfl <| q_ld1_ro .n (.t rfl) rfl ic_9 rfl <| q_call0 (full := false) .n .f en_74 (.cons (.t rfl) .nil) (.cons (.b (.a (.same rfl))) .nil) (fun hg => c_spec_l01Name a.Id) rfl (fun h => Bool.noConfusion h) rfl <| q_not .n (.t rfl) rfl <| q_move .n (.t rfl) rfl <| q_move (.f rfl rfl) (.t rfl) rfl <| q_nilc_ro (.f rfl rfl) (.u rfl id) rfl <| q_fld_ro (.f rfl rfl) (.u rfl id) fo_99_1 rfl <| q_ld1_ro (.f rfl rfl) (.u rfl id) rfl ic_2 rfl <| q_call0 (full := false) (.f rfl rfl) .f en_27 (.cons (.u rfl id) (.cons (.c rfl) (.cons (.c rfl) .nil))) (.cons (.b (.a (.same rfl))) (.cons (.b (.a (.same rfl))) (.cons (.b (.a (.same rfl))) .nil))) (fun hg => c_spec_l00In a.From 0 15) rfl (fun h => Bool.noConfusion h) rfl <| q_not (.f rfl rfl) (.u rfl id) rfl <| q_or .n (.t rfl) (.u rfl id) rfl <| q_move .n (.t rfl) rfl <| q_move (.f rfl rfl) (.t rfl) rfl <| q_nilc_ro (.f rfl rfl) (.u rfl id) rfl <| q_fld_ro (.f rfl rfl) (.u rfl id) fo_99_2 rfl <| q_ld1_ro (.f rfl rfl) (.u rfl id) rfl ic_2 rfl <| q_call0 (full := false) (.f rfl rfl) .f en_27 (.cons (.u rfl id) (.cons (.c rfl) (.cons (.c rfl) .nil))) (.cons (.b (.a (.same rfl))) (.cons (.b (.a (.same rfl))) (.cons (.b (.a (.same rfl))) .nil))) (fun hg => c_spec_l00In a.To 0 15) rfl (fun h => Bool.noConfusion h) rfl <| q_not (.f rfl rfl) (.u rfl id) rfl <| q_or .n (.t rfl) (.u rfl id) rfl <| q_move .n (.t rfl) rfl <| q_move (.f rfl rfl) (.t rfl) rfl <| q_nilc_ro (.f rfl rfl) (.u rfl id) rfl <| q_fld_ro (.f rfl rfl) (.u rfl id) fo_99_1 rfl <| q_ld1_ro (.f rfl rfl) (.u rfl id) rfl ic_2 rfl <| q_move (.f rfl rfl) (.t rfl) rfl <| q_nilc_ro (.f rfl rfl) (.u rfl id) rfl <| q_fld_ro (.f rfl rfl) (.u rfl id) fo_99_2 rfl <| q_ld1_ro (.f rfl rfl) (.u rfl id) rfl ic_2 rfl <| q_int (.f rfl rfl) (.u rfl id) (.u rfl id) rfl rfl <| q_or .n (.t rfl) (.u rfl id) rfl <| Lex.nil) (by kernel_rfl) ?_
  refine run_cond (.t rfl) rfl (fun h1 => ?_) (fun h1 => ?_)
  · try simp only [Bool.and_eq_true, Bool.or_eq_true, Bool.not_eq_true', Bool.and_eq_false_iff, Bool.or_eq_false_iff, Bool.not_eq_false', decide_eq_true_eq, decide_eq_false_iff_not, beq_iff_eq, bne_iff_ne, beq_eq_false_iff_ne, bne_eq_false_iff_eq, Bool.true_and, ne_eq, Decidable.not_not, Int.not_lt, Int.not_le, Nat.not_lt, Nat.not_le, strB_nil, strB_nil', strB_nnil, strB_nnil'] at h1
    try have hf0h1 := l00In_imp h1
    try have hf1h1 := l00In_imp h1.1
    try have hf2h1 := l00In_imp h1.2
    try have hf3h1 := l00In_imp h1.1.1
    try have hf4h1 := l00In_imp h1.1.2
    try have hf5h1 := l00In_imp h1.2.1
    try have hf6h1 := l00In_imp h1.2.2
    try have hf7h1 := l00In_imp h1.1.1.1
    try have hf8h1 := l00In_imp h1.1.1.2
    refine run_seq ?_
    refine run_region (q_assign .n (.c rfl) rfl <| Lex.nil) ?_
    exact run_ret [] (.cons (.t rfl rfl) .nil) rfl trivial rfl
  · try simp only [Bool.and_eq_true, Bool.or_eq_true, Bool.not_eq_true', Bool.and_eq_false_iff, Bool.or_eq_false_iff, Bool.not_eq_false', decide_eq_true_eq, decide_eq_false_iff_not, beq_iff_eq, bne_iff_ne, beq_eq_false_iff_ne, bne_eq_false_iff_eq, Bool.true_and, ne_eq, Decidable.not_not, Int.not_lt, Int.not_le, Nat.not_lt, Nat.not_le, strB_nil, strB_nil', strB_nnil, strB_nnil'] at h1
    try have hf0h1 := l00In_imp h1
    try have hf1h1 := l00In_imp h1.1
    try have hf2h1 := l00In_imp h1.2
    try have hf3h1 := l00In_imp h1.1.1
    try have hf4h1 := l00In_imp h1.1.2
    try have hf5h1 := l00In_imp h1.2.1
    try have hf6h1 := l00In_imp h1.2.2
    try have hf7h1 := l00In_imp h1.1.1.1
    try have hf8h1 := l00In_imp h1.1.1.2
    refine run_skip ?_
    refine run_seq ?_
    refine run_region (q_move .n (.t rfl) rfl <| q_nilc_ro .n (.t rfl) rfl <| q_fld_ro .n (.t rfl) fo_99_3 rfl <| q_ld1_ro .n (.t rfl) rfl ic_2 rfl <| q_call0 (full := false) .n .f en_27 (.cons (.t rfl) (.cons (.c rfl) (.cons (.c rfl) .nil))) (.cons (.b (.a (.same rfl))) (.cons (.b (.a (.same rfl))) (.cons (.b (.a (.same rfl))) .nil))) (fun hg => c_spec_l00In a.Length 1 10000) rfl (fun h => Bool.noConfusion h) rfl <| q_move .n (.t rfl) rfl <| q_move (.t rfl rfl) (.t rfl) rfl <| q_nilc_ro (.t rfl rfl) (.u rfl id) rfl <| q_fld_ro (.t rfl rfl) (.u rfl id) fo_99_4 rfl <| q_ld1_ro (.t rfl rfl) (.u rfl id) rfl ic_2 rfl <| q_call0 (full := false) (.t rfl rfl) .f en_27 (.cons (.u rfl id) (.cons (.c rfl) (.cons (.c rfl) .nil))) (.cons (.b (.a (.same rfl))) (.cons (.b (.a (.same rfl))) (.cons (.b (.a (.same rfl))) .nil))) (fun hg => c_spec_l00In a.Section 50 5000) rfl (fun h => Bool.noConfusion h) rfl <| q_and .n (.t rfl) (.u rfl id) rfl <| q_move .n (.t rfl) rfl <| q_move (.t rfl rfl) (.t rfl) rfl <| q_nilc_ro (.t rfl rfl) (.u rfl id) rfl <| q_fld_ro (.t rfl rfl) (.u rfl id) fo_99_5 rfl <| q_ld1_ro (.t rfl rfl) (.u rfl id) rfl ic_2 rfl <| q_call0 (full := false) (.t rfl rfl) .f en_27 (.cons (.u rfl id) (.cons (.c rfl) (.cons (.c rfl) .nil))) (.cons (.b (.a (.same rfl))) (.cons (.b (.a (.same rfl))) (.cons (.b (.a (.same rfl))) .nil))) (fun hg => c_spec_l00In a.Friction 1 1000) rfl (fun h => Bool.noConfusion h) rfl <| q_and .n (.t rfl) (.u rfl id) rfl <| q_move .n (.t rfl) rfl <| q_move (.t rfl rfl) (.t rfl) rfl <| q_nilc_ro (.t rfl rfl) (.u rfl id) rfl <| q_fld_ro (.t rfl rfl) (.u rfl id) fo_99_6 rfl <| q_ld1_ro (.t rfl rfl) (.u rfl id) rfl ic_2 rfl <| q_call0 (full := false) (.t rfl rfl) .f en_27 (.cons (.u rfl id) (.cons (.c rfl) (.cons (.c rfl) .nil))) (.cons (.b (.a (.same rfl))) (.cons (.b (.a (.same rfl))) (.cons (.b (.a (.same rfl))) .nil))) (fun hg => c_spec_l00In a.Shock 0 1000) rfl (fun h => Bool.noConfusion h) rfl <| q_and .n (.t rfl) (.u rfl id) rfl <| q_assign .n (.t rfl) rfl <| Lex.nil) ?_
    exact run_ret [] (.cons (.t rfl rfl) .nil) rfl trivial rfl

/-! ### spec_l04Junction -/
theorem c_spec_l04Junction (m_ : gMine) (j : Int) : Con Try.prog 73 [.rp [.int .i64 m_.Junctions, .sl 7 (m_.Airways.map gAirway.v)], .int .i64 j] [] (.bool (m_spec_l04Junction m_ j)) ([]) := by
  refine con_intro (out := fun r : Bool => ((.bool r : V), ([] : List (Nat × Option O)))) (r := (m_spec_l04Junction m_ j)) Try.func73 rfl Try.ntmps73 rfl ?_
  refine run_factP (t := 0) 1 rfl rfl fun hl => ?_
  have l1 := hl; clear hl; simp only [List.length_map] at l1
  refine run_seq ?_
  refine run_region (q_assign .n (.c rfl) rfl <| Lex.nil) ?_
  refine run_seq ?_
  refine run_region (q_move .n (.t rfl) rfl <| q_move .n (.t rfl) rfl <| q_nilc_ro .n (.t rfl) rfl <| q_fld_ro .n (.t rfl) fo_35_0 rfl <| q_ld1_ro .n (.t rfl) rfl ic_2 rfl <| q_int .n (.t rfl) (.c rfl) rfl rfl <| q_call0 (full := false) .n .f en_27 (.cons (.t rfl) (.cons (.c rfl) (.cons (.t rfl) .nil))) (.cons (.b (.a (.same rfl))) (.cons (.b (.a (.same rfl))) (.cons (.b (.a (.same rfl))) .nil))) (fun hg => c_spec_l00In j 0 (IntKind.wrap .i64 (m_.Junctions - 1))) rfl (fun h => Bool.noConfusion h) rfl <| q_assign .n (.t rfl) rfl <| Lex.nil) ?_
  exact run_ret [] (.cons (.t rfl rfl) .nil) rfl trivial rfl

/-! ### spec_l04Ok -/
theorem c_spec_l04Ok (m_ : gMine) : Con Try.prog 48 [.rp [.int .i64 m_.Junctions, .sl 7 (m_.Airways.map gAirway.v)]] [] (.bool (m_spec_l04Ok m_)) ([]) := by
  refine con_intro (out := fun r : Bool => ((.bool r : V), ([] : List (Nat × Option O)))) (r := (m_spec_l04Ok m_)) Try.func48 rfl Try.ntmps48 rfl ?_
  refine run_factP (t := 0) 1 rfl rfl fun hl => ?_
  have l1 := hl; clear hl; simp only [List.length_map] at l1
  refine run_seq ?_
  refine run_region (q_assign .n (.c rfl) rfl <| Lex.nil) ?_
  refine run_seq ?_
  refine run_seq ?_
  refine run_region (q_move .n (.t rfl) rfl <| q_nilc_ro .n (.t rfl) rfl <| q_fld_ro .n (.t rfl) fo_35_0 rfl <| q_ld1_ro .n (.t rfl) rfl ic_2 rfl <| q_call0 (full := false) .n .f en_27 (.cons (.t rfl) (.cons (.c rfl) (.cons (.c rfl) .nil))) (.cons (.b (.a (.same rfl))) (.cons (.b (.a (.same rfl))) (.cons (.b (.a (.same rfl))) .nil))) (fun hg => c_spec_l00In m_.Junctions 1 16) rfl (fun h => Bool.noConfusion h) rfl <| q_not .n (.t rfl) rfl <| Lex.nil) ?_
  refine run_cond (.t rfl) rfl (fun h2 => ?_) (fun h2 => ?_)
  · try simp only [Bool.and_eq_true, Bool.or_eq_true, Bool.not_eq_true', Bool.and_eq_false_iff, Bool.or_eq_false_iff, Bool.not_eq_false', decide_eq_true_eq, decide_eq_false_iff_not, beq_iff_eq, bne_iff_ne, beq_eq_false_iff_ne, bne_eq_false_iff_eq, Bool.true_and, ne_eq, Decidable.not_not, Int.not_lt, Int.not_le, Nat.not_lt, Nat.not_le, strB_nil, strB_nil', strB_nnil, strB_nnil'] at h2
    try have hf0h2 := l00In_imp h2
    try have hf1h2 := l00In_imp h2.1
    try have hf2h2 := l00In_imp h2.2
    try have hf3h2 := l00In_imp h2.1.1
    try have hf4h2 := l00In_imp h2.1.2
    try have hf5h2 := l00In_imp h2.2.1
    try have hf6h2 := l00In_imp h2.2.2
    refine run_seq ?_
    refine run_region (q_assign .n (.c rfl) rfl <| Lex.nil) ?_
    exact run_ret [] (.cons (.t rfl rfl) .nil) rfl trivial rfl
  · try simp only [Bool.and_eq_true, Bool.or_eq_true, Bool.not_eq_true', Bool.and_eq_false_iff, Bool.or_eq_false_iff, Bool.not_eq_false', decide_eq_true_eq, decide_eq_false_iff_not, beq_iff_eq, bne_iff_ne, beq_eq_false_iff_ne, bne_eq_false_iff_eq, Bool.true_and, ne_eq, Decidable.not_not, Int.not_lt, Int.not_le, Nat.not_lt, Nat.not_le, strB_nil, strB_nil', strB_nnil, strB_nnil'] at h2
    try have hf0h2 := l00In_imp h2
    try have hf1h2 := l00In_imp h2.1
    try have hf2h2 := l00In_imp h2.2
    try have hf3h2 := l00In_imp h2.1.1
    try have hf4h2 := l00In_imp h2.1.2
    try have hf5h2 := l00In_imp h2.2.1
    try have hf6h2 := l00In_imp h2.2.2
    refine run_skip ?_
    refine run_seq ?_
    refine run_seq ?_
    refine run_region (q_assign .n (.c rfl) rfl <| Lex.nil) ?_
    refine run_block ?_
    refine run_LOOP (m_spec_l04Ok_b1 m_) _ _ _ rfl (fun (x1 : Int) => 0 ≤ x1 ∧ x1 ≤ (m_.Airways.length : Int)) (fun x1 => 0 ≤ x1 ∧ x1 ≤ (m_.Airways.length : Int) ∧ (m_.Airways.length : Int) ≤ x1) (fun x1 => ((m_.Airways.length : Int) - x1 : Int).toNat) (fun x1 => ⟨[(0, some (true, .rp [.int .i64 m_.Junctions, .sl 7 (m_.Airways.map gAirway.v)])), (3, some (true, .int .i64 x1))], []⟩) (fun x1 => ⟨[(0, some (true, .rp [.int .i64 m_.Junctions, .sl 7 (m_.Airways.map gAirway.v)]))], []⟩) ⟨by omega, by omega⟩ (by omega) (sub_of [] ⟨rfl, rfl, trivial⟩ trivial rfl) ?_ ?_
    · intro x1 i7
      obtain ⟨e8, e9, e10⟩ := i7
      try dsimp only at *
      refine run_seq ?_
      refine run_region (q_move .n (.t rfl) rfl <| q_nilc_ro .n (.t rfl) rfl <| q_fld_ro .n (.t rfl) fo_35_1 rfl <| q_ld1_ro .n (.t rfl) rfl ic_33 rfl <| q_len .n (.t rfl) rfl len_map ss_33 rfl <| q_int .n (.t rfl) (.c rfl) rfl rfl <| q_assign .n (.t rfl) rfl <| Lex.nil) ?_
      exact run_ret [] (.cons (.t rfl rfl) .nil) rfl trivial rfl
    · intro rec1 k1 hk3 x1 i4
      obtain ⟨e11, e12⟩ := i4
      try dsimp only at *
      refine run_seq ?_
      refine run_seq ?_
      refine run_region (q_move .n (.t rfl) rfl <| q_move .n (.t rfl) rfl <| q_nilc_ro .n (.t rfl) rfl <| q_fld_ro .n (.t rfl) fo_35_1 rfl <| q_ld1_ro .n (.t rfl) rfl ic_33 rfl <| q_len .n (.t rfl) rfl len_map ss_33 rfl <| q_int .n (.t rfl) (.t rfl) rfl rfl <| Lex.nil) ?_
      refine run_cond (.t rfl) rfl (fun h5 => ?_) (fun h5 => ?_)
      · try simp only [Bool.and_eq_true, Bool.or_eq_true, Bool.not_eq_true', Bool.and_eq_false_iff, Bool.or_eq_false_iff, Bool.not_eq_false', decide_eq_true_eq, decide_eq_false_iff_not, beq_iff_eq, bne_iff_ne, beq_eq_false_iff_ne, bne_eq_false_iff_eq, Bool.true_and, ne_eq, Decidable.not_not, Int.not_lt, Int.not_le, Nat.not_lt, Nat.not_le, strB_nil, strB_nil', strB_nnil, strB_nnil'] at h5
        refine run_skip ?_
        refine run_seq ?_
        refine run_block ?_
        refine run_seq ?_
        refine run_region (q_move .n (.t rfl) rfl <| q_nilc_ro .n (.t rfl) rfl <| q_fld_ro .n (.t rfl) fo_35_1 rfl <| q_ld1_ro .n (.t rfl) rfl ic_33 rfl <| q_move .n (.t rfl) rfl <| q_idx_rm .n (.t rfl) (.t rfl) sl_33 (fun _ => by omega) rfl <| q_assign .n (.t rfl) rfl <| Lex.nil) ?_
        refine run_seq ?_
        refine run_draw fmo (q_move .n (.t rfl) rfl <| q_call0 (full := false) .n .f en_72 (.cons (.t rfl) .nil) (.cons (.b (.a (.same rfl))) .nil) (fun hg => c_spec_l03Ok (at' m_.Airways x1)) rfl (fun h => Bool.noConfusion h) rfl <| q_not .n (.t rfl) rfl <| q_move .n (.t rfl) rfl <| q_move (.f rfl rfl) (.t rfl) rfl <| q_move (.f rfl rfl) (.t rfl) rfl <| q_nilc_ro (.f rfl rfl) (.u rfl id) rfl <| q_fld_ro (.f rfl rfl) (.u rfl id) fo_99_1 rfl <| q_ld1_ro (.f rfl rfl) (.u rfl id) rfl ic_2 rfl <| q_call0 (full := false) (.f rfl rfl) .f en_73 (.cons (.u rfl id) (.cons (.u rfl id) .nil)) (.cons (.b (.a (.same rfl))) (.cons (.b (.a (.same rfl))) .nil)) (fun hg => c_spec_l04Junction m_ (at' m_.Airways x1).From) rfl (fun h => Bool.noConfusion h) rfl <| q_not (.f rfl rfl) (.u rfl id) rfl <| q_or .n (.t rfl) (.u rfl id) rfl <| q_move .n (.t rfl) rfl <| q_move (.f rfl rfl) (.t rfl) rfl <| q_move (.f rfl rfl) (.t rfl) rfl <| q_nilc_ro (.f rfl rfl) (.u rfl id) rfl <| q_fld_ro (.f rfl rfl) (.u rfl id) fo_99_2 rfl <| q_ld1_ro (.f rfl rfl) (.u rfl id) rfl ic_2 rfl <| q_call0 (full := false) (.f rfl rfl) .f en_73 (.cons (.u rfl id) (.cons (.u rfl id) .nil)) (.cons (.b (.a (.same rfl))) (.cons (.b (.a (.same rfl))) .nil)) (fun hg => c_spec_l04Junction m_ (at' m_.Airways x1).To) rfl (fun h => Bool.noConfusion h) rfl <| q_not (.f rfl rfl) (.u rfl id) rfl <| q_or .n (.t rfl) (.u rfl id) rfl <| q_move .n (.t rfl) rfl <| q_move (.f rfl rfl) (.t rfl) rfl <| q_int (.f rfl rfl) (.u rfl id) (.c rfl) rfl rfl <| q_move (.f rfl rfl) (.u rfl id) rfl <| q_move (.t rfl rfl) (.t rfl) rfl <| q_nilc_ro (.t rfl rfl) (.u rfl id) rfl <| q_fld_ro (.t rfl rfl) (.u rfl id) fo_35_1 rfl <| q_ld1_ro (.t rfl rfl) (.u rfl id) rfl ic_33 rfl <| q_move (.t rfl rfl) (.t rfl) rfl <| q_sub (.t rfl rfl) (.u rfl id) (.c rfl) (fun hg => by simp only [Bool.and_eq_true, Bool.or_eq_true, Bool.not_eq_true', Bool.and_eq_false_iff, Bool.or_eq_false_iff, Bool.not_eq_false', decide_eq_true_eq, decide_eq_false_iff_not, beq_iff_eq, bne_iff_ne, beq_eq_false_iff_ne, bne_eq_false_iff_eq, Bool.true_and, ne_eq, Decidable.not_not, Int.not_lt, Int.not_le, Nat.not_lt, Nat.not_le, strB_nil, strB_nil', strB_nnil, strB_nnil'] at hg; omega) rfl <| q_idx_rm (.t rfl rfl) (.u rfl id) (.u rfl id) sl_33 (fun hg => by simp only [Bool.and_eq_true, Bool.or_eq_true, Bool.not_eq_true', Bool.and_eq_false_iff, Bool.or_eq_false_iff, Bool.not_eq_false', decide_eq_true_eq, decide_eq_false_iff_not, beq_iff_eq, bne_iff_ne, beq_eq_false_iff_ne, bne_eq_false_iff_eq, Bool.true_and, ne_eq, Decidable.not_not, Int.not_lt, Int.not_le, Nat.not_lt, Nat.not_le, strB_nil, strB_nil', strB_nnil, strB_nnil'] at hg; omega) rfl <| q_fld_ro (.t rfl rfl) (.u rfl id) fo_99_0 rfl <| q_ld1_ro (.t rfl rfl) (.u rfl id) rfl ic_9 rfl <| q_move (.t rfl rfl) (.t rfl) rfl <| q_nilc_ro (.t rfl rfl) (.u rfl id) rfl <| q_fld_ro (.t rfl rfl) (.u rfl id) fo_99_0 rfl <| q_ld1_ro (.t rfl rfl) (.u rfl id) rfl ic_9 rfl <| q_strcmp (.t rfl rfl) (.u rfl id) (.u rfl id) rfl rfl <| q_and (.f rfl rfl) (.u rfl id) (.u rfl id) rfl <| q_or .n (.t rfl) (.u rfl id) rfl <| Lex.nil) (by kernel_rfl) ?_
        refine run_cond (.t rfl) rfl (fun h6 => ?_) (fun h6 => ?_)
        · try simp only [Bool.and_eq_true, Bool.or_eq_true, Bool.not_eq_true', Bool.and_eq_false_iff, Bool.or_eq_false_iff, Bool.not_eq_false', decide_eq_true_eq, decide_eq_false_iff_not, beq_iff_eq, bne_iff_ne, beq_eq_false_iff_ne, bne_eq_false_iff_eq, Bool.true_and, ne_eq, Decidable.not_not, Int.not_lt, Int.not_le, Nat.not_lt, Nat.not_le, strB_nil, strB_nil', strB_nnil, strB_nnil'] at h6
          refine run_seq ?_
          refine run_region (q_assign .n (.c rfl) rfl <| Lex.nil) ?_
          exact run_ret [] (.cons (.t rfl rfl) .nil) rfl trivial rfl
        · try simp only [Bool.and_eq_true, Bool.or_eq_true, Bool.not_eq_true', Bool.and_eq_false_iff, Bool.or_eq_false_iff, Bool.not_eq_false', decide_eq_true_eq, decide_eq_false_iff_not, beq_iff_eq, bne_iff_ne, beq_eq_false_iff_ne, bne_eq_false_iff_eq, Bool.true_and, ne_eq, Decidable.not_not, Int.not_lt, Int.not_le, Nat.not_lt, Nat.not_le, strB_nil, strB_nil', strB_nnil, strB_nnil'] at h6
          refine run_skip ?_
          refine run_endB ?_
          refine run_region (q_move .n (.t rfl) rfl <| q_add .n (.t rfl) (.c rfl) (fun _ => by omega) rfl <| q_assign .n (.t rfl) rfl <| Lex.nil) ?_
          exact run_again (x1 + 1) ⟨by omega, by omega⟩ (by omega) (sub_of [] ⟨rfl, rfl, trivial⟩ trivial rfl)
      · try simp only [Bool.and_eq_true, Bool.or_eq_true, Bool.not_eq_true', Bool.and_eq_false_iff, Bool.or_eq_false_iff, Bool.not_eq_false', decide_eq_true_eq, decide_eq_false_iff_not, beq_iff_eq, bne_iff_ne, beq_eq_false_iff_ne, bne_eq_false_iff_eq, Bool.true_and, ne_eq, Decidable.not_not, Int.not_lt, Int.not_le, Nat.not_lt, Nat.not_le, strB_nil, strB_nil', strB_nnil, strB_nnil'] at h5
        refine run_exit rfl ?_
        exact run_cont hk3 x1 ⟨by omega, by omega, by omega⟩ (sub_of [] ⟨rfl, trivial⟩ trivial rfl)

/-! ### spec_l20One -/
theorem c_spec_l20One (x_ : gRefuge) : Con Try.prog 49 [.rp [.str x_.Id, .int .i64 x_.Junction, .int .i64 x_.Places, .int .i64 x_.Air]] [] (.bool (m_spec_l20One x_)) ([]) := by
  refine con_intro (out := fun r : Bool => ((.bool r : V), ([] : List (Nat × Option O)))) (r := (m_spec_l20One x_)) Try.func49 rfl Try.ntmps49 rfl ?_
  refine run_seq ?_
  refine run_region (q_assign .n (.c rfl) rfl <| Lex.nil) ?_
  refine run_seq ?_
  refine run_region (q_move .n (.t rfl) rfl <| q_nilc_ro .n (.t rfl) rfl <| q_fld_ro .n (.t rfl) fo_72_0 rfl <| q_ld1_ro .n (.t rfl) rfl ic_9 rfl <| q_call0 (full := false) .n .f en_74 (.cons (.t rfl) .nil) (.cons (.b (.a (.same rfl))) .nil) (fun hg => c_spec_l01Name x_.Id) rfl (fun h => Bool.noConfusion h) rfl <| q_move .n (.t rfl) rfl <| q_move (.t rfl rfl) (.t rfl) rfl <| q_nilc_ro (.t rfl rfl) (.u rfl id) rfl <| q_fld_ro (.t rfl rfl) (.u rfl id) fo_72_1 rfl <| q_ld1_ro (.t rfl rfl) (.u rfl id) rfl ic_2 rfl <| q_call0 (full := false) (.t rfl rfl) .f en_27 (.cons (.u rfl id) (.cons (.c rfl) (.cons (.c rfl) .nil))) (.cons (.b (.a (.same rfl))) (.cons (.b (.a (.same rfl))) (.cons (.b (.a (.same rfl))) .nil))) (fun hg => c_spec_l00In x_.Junction 0 15) rfl (fun h => Bool.noConfusion h) rfl <| q_and .n (.t rfl) (.u rfl id) rfl <| q_move .n (.t rfl) rfl <| q_move (.t rfl rfl) (.t rfl) rfl <| q_nilc_ro (.t rfl rfl) (.u rfl id) rfl <| q_fld_ro (.t rfl rfl) (.u rfl id) fo_72_2 rfl <| q_ld1_ro (.t rfl rfl) (.u rfl id) rfl ic_2 rfl <| q_call0 (full := false) (.t rfl rfl) .f en_27 (.cons (.u rfl id) (.cons (.c rfl) (.cons (.c rfl) .nil))) (.cons (.b (.a (.same rfl))) (.cons (.b (.a (.same rfl))) (.cons (.b (.a (.same rfl))) .nil))) (fun hg => c_spec_l00In x_.Places 1 200) rfl (fun h => Bool.noConfusion h) rfl <| q_and .n (.t rfl) (.u rfl id) rfl <| q_move .n (.t rfl) rfl <| q_move (.t rfl rfl) (.t rfl) rfl <| q_nilc_ro (.t rfl rfl) (.u rfl id) rfl <| q_fld_ro (.t rfl rfl) (.u rfl id) fo_72_3 rfl <| q_ld1_ro (.t rfl rfl) (.u rfl id) rfl ic_2 rfl <| q_call0 (full := false) (.t rfl rfl) .f en_27 (.cons (.u rfl id) (.cons (.c rfl) (.cons (.c rfl) .nil))) (.cons (.b (.a (.same rfl))) (.cons (.b (.a (.same rfl))) (.cons (.b (.a (.same rfl))) .nil))) (fun hg => c_spec_l00In x_.Air 0 10000000) rfl (fun h => Bool.noConfusion h) rfl <| q_and .n (.t rfl) (.u rfl id) rfl <| q_assign .n (.t rfl) rfl <| Lex.nil) ?_
  exact run_ret [] (.cons (.t rfl rfl) .nil) rfl trivial rfl

/-! ### spec_l20Ok -/
theorem c_spec_l20Ok (m_ : gMine) (list : List gRefuge) : Con Try.prog 25 [.rp [.int .i64 m_.Junctions, .sl 7 (m_.Airways.map gAirway.v)], .sl 4 (list.map gRefuge.v)] [] (.bool (m_spec_l20Ok m_ list)) ([]) := by
  refine con_intro (out := fun r : Bool => ((.bool r : V), ([] : List (Nat × Option O)))) (r := (m_spec_l20Ok m_ list)) Try.func25 rfl Try.ntmps25 rfl ?_
  refine run_factP (t := 0) 1 rfl rfl fun hl => ?_
  have l1 := hl; clear hl; simp only [List.length_map] at l1
  refine run_fact (t := 1) rfl fun hl => ?_
  have l2 := hl; clear hl; simp only [List.length_map] at l2
  refine run_seq ?_
  refine run_region (q_assign .n (.c rfl) rfl <| Lex.nil) ?_
  refine run_seq ?_
  refine run_seq ?_
  refine run_region (q_move .n (.t rfl) rfl <| q_call0 (full := false) .n .f en_48 (.cons (.t rfl) .nil) (.cons (.b (.a (.same rfl))) .nil) (fun hg => c_spec_l04Ok m_) rfl (fun h => Bool.noConfusion h) rfl <| q_not .n (.t rfl) rfl <| q_move .n (.t rfl) rfl <| q_move (.f rfl rfl) (.t rfl) rfl <| q_len (.f rfl rfl) (.u rfl id) rfl len_map ss_40 rfl <| q_int (.f rfl rfl) (.u rfl id) (.c rfl) rfl rfl <| q_or .n (.t rfl) (.u rfl id) rfl <| Lex.nil) ?_
  refine run_cond (.t rfl) rfl (fun h3 => ?_) (fun h3 => ?_)
  · try simp only [Bool.and_eq_true, Bool.or_eq_true, Bool.not_eq_true', Bool.and_eq_false_iff, Bool.or_eq_false_iff, Bool.not_eq_false', decide_eq_true_eq, decide_eq_false_iff_not, beq_iff_eq, bne_iff_ne, beq_eq_false_iff_ne, bne_eq_false_iff_eq, Bool.true_and, ne_eq, Decidable.not_not, Int.not_lt, Int.not_le, Nat.not_lt, Nat.not_le, strB_nil, strB_nil', strB_nnil, strB_nnil'] at h3
    try have hf0h3 := l04Ok_imp h3
    try have hf1h3 := l04Ok_imp h3.1
    try have hf2h3 := l04Ok_imp h3.2
    try have hf3h3 := l04Ok_imp h3.1.1
    try have hf4h3 := l04Ok_imp h3.1.2
    try have hf5h3 := l04Ok_imp h3.2.1
    try have hf6h3 := l04Ok_imp h3.2.2
    refine run_seq ?_
    refine run_region (q_assign .n (.c rfl) rfl <| Lex.nil) ?_
    exact run_ret [] (.cons (.t rfl rfl) .nil) rfl trivial rfl
  · try simp only [Bool.and_eq_true, Bool.or_eq_true, Bool.not_eq_true', Bool.and_eq_false_iff, Bool.or_eq_false_iff, Bool.not_eq_false', decide_eq_true_eq, decide_eq_false_iff_not, beq_iff_eq, bne_iff_ne, beq_eq_false_iff_ne, bne_eq_false_iff_eq, Bool.true_and, ne_eq, Decidable.not_not, Int.not_lt, Int.not_le, Nat.not_lt, Nat.not_le, strB_nil, strB_nil', strB_nnil, strB_nnil'] at h3
    try have hf0h3 := l04Ok_imp h3
    try have hf1h3 := l04Ok_imp h3.1
    try have hf2h3 := l04Ok_imp h3.2
    try have hf3h3 := l04Ok_imp h3.1.1
    try have hf4h3 := l04Ok_imp h3.1.2
    try have hf5h3 := l04Ok_imp h3.2.1
    try have hf6h3 := l04Ok_imp h3.2.2
    refine run_skip ?_
    refine run_seq ?_
    refine run_seq ?_
    refine run_region (q_assign .n (.c rfl) rfl <| Lex.nil) ?_
    refine run_block ?_
    refine run_LOOP (m_spec_l20Ok_b1 m_ list) _ _ _ rfl (fun (x1 : Int) => 0 ≤ x1 ∧ x1 ≤ (list.length : Int)) (fun x1 => 0 ≤ x1 ∧ x1 ≤ (list.length : Int) ∧ (list.length : Int) ≤ x1) (fun x1 => ((list.length : Int) - x1 : Int).toNat) (fun x1 => ⟨[(0, some (true, .rp [.int .i64 m_.Junctions, .sl 7 (m_.Airways.map gAirway.v)])), (1, some (true, .sl 4 (list.map gRefuge.v))), (5, some (true, .int .i64 x1))], []⟩) (fun x1 => ⟨[], []⟩) ⟨by omega, by omega⟩ (by omega) (sub_of [] ⟨rfl, rfl, rfl, trivial⟩ trivial rfl) ?_ ?_
    · intro x1 i8
      obtain ⟨e9, e10, e11⟩ := i8
      try dsimp only at *
      refine run_seq ?_
      refine run_region (q_assign .n (.c rfl) rfl <| Lex.nil) ?_
      exact run_ret [] (.cons (.t rfl rfl) .nil) rfl trivial rfl
    · intro rec1 k1 hk4 x1 i5
      obtain ⟨e12, e13⟩ := i5
      try dsimp only at *
      refine run_seq ?_
      refine run_seq ?_
      refine run_region (q_move .n (.t rfl) rfl <| q_move .n (.t rfl) rfl <| q_len .n (.t rfl) rfl len_map ss_40 rfl <| q_int .n (.t rfl) (.t rfl) rfl rfl <| Lex.nil) ?_
      refine run_cond (.t rfl) rfl (fun h6 => ?_) (fun h6 => ?_)
      · try simp only [Bool.and_eq_true, Bool.or_eq_true, Bool.not_eq_true', Bool.and_eq_false_iff, Bool.or_eq_false_iff, Bool.not_eq_false', decide_eq_true_eq, decide_eq_false_iff_not, beq_iff_eq, bne_iff_ne, beq_eq_false_iff_ne, bne_eq_false_iff_eq, Bool.true_and, ne_eq, Decidable.not_not, Int.not_lt, Int.not_le, Nat.not_lt, Nat.not_le, strB_nil, strB_nil', strB_nnil, strB_nnil'] at h6
        refine run_skip ?_
        refine run_seq ?_
        refine run_block ?_
        refine run_seq ?_
        refine run_draw fmo (q_move .n (.t rfl) rfl <| q_move .n (.t rfl) rfl <| q_idx_rm .n (.t rfl) (.t rfl) sl_40 (fun _ => by omega) rfl <| q_call0 (full := false) .n .f en_49 (.cons (.t rfl) .nil) (.cons (.b (.a (.same rfl))) .nil) (fun hg => c_spec_l20One (at' list x1)) rfl (fun h => Bool.noConfusion h) rfl <| q_not .n (.t rfl) rfl <| q_move .n (.t rfl) rfl <| q_move (.f rfl rfl) (.t rfl) rfl <| q_move (.f rfl rfl) (.t rfl) rfl <| q_idx_rm (.f rfl rfl) (.u rfl id) (.u rfl id) sl_40 (fun hg => by simp only [Bool.and_eq_true, Bool.or_eq_true, Bool.not_eq_true', Bool.and_eq_false_iff, Bool.or_eq_false_iff, Bool.not_eq_false', decide_eq_true_eq, decide_eq_false_iff_not, beq_iff_eq, bne_iff_ne, beq_eq_false_iff_ne, bne_eq_false_iff_eq, Bool.true_and, ne_eq, Decidable.not_not, Int.not_lt, Int.not_le, Nat.not_lt, Nat.not_le, strB_nil, strB_nil', strB_nnil, strB_nnil'] at hg; omega) rfl <| q_fld_ro (.f rfl rfl) (.u rfl id) fo_72_1 rfl <| q_ld1_ro (.f rfl rfl) (.u rfl id) rfl ic_2 rfl <| q_move (.f rfl rfl) (.t rfl) rfl <| q_nilc_ro (.f rfl rfl) (.u rfl id) rfl <| q_fld_ro (.f rfl rfl) (.u rfl id) fo_35_0 rfl <| q_ld1_ro (.f rfl rfl) (.u rfl id) rfl ic_2 rfl <| q_int (.f rfl rfl) (.u rfl id) (.u rfl id) rfl rfl <| q_or .n (.t rfl) (.u rfl id) rfl <| q_move .n (.t rfl) rfl <| q_move (.f rfl rfl) (.t rfl) rfl <| q_int (.f rfl rfl) (.u rfl id) (.c rfl) rfl rfl <| q_move (.f rfl rfl) (.u rfl id) rfl <| q_move (.t rfl rfl) (.t rfl) rfl <| q_move (.t rfl rfl) (.t rfl) rfl <| q_sub (.t rfl rfl) (.u rfl id) (.c rfl) (fun hg => by simp only [Bool.and_eq_true, Bool.or_eq_true, Bool.not_eq_true', Bool.and_eq_false_iff, Bool.or_eq_false_iff, Bool.not_eq_false', decide_eq_true_eq, decide_eq_false_iff_not, beq_iff_eq, bne_iff_ne, beq_eq_false_iff_ne, bne_eq_false_iff_eq, Bool.true_and, ne_eq, Decidable.not_not, Int.not_lt, Int.not_le, Nat.not_lt, Nat.not_le, strB_nil, strB_nil', strB_nnil, strB_nnil'] at hg; omega) rfl <| q_idx_rm (.t rfl rfl) (.u rfl id) (.u rfl id) sl_40 (fun hg => by simp only [Bool.and_eq_true, Bool.or_eq_true, Bool.not_eq_true', Bool.and_eq_false_iff, Bool.or_eq_false_iff, Bool.not_eq_false', decide_eq_true_eq, decide_eq_false_iff_not, beq_iff_eq, bne_iff_ne, beq_eq_false_iff_ne, bne_eq_false_iff_eq, Bool.true_and, ne_eq, Decidable.not_not, Int.not_lt, Int.not_le, Nat.not_lt, Nat.not_le, strB_nil, strB_nil', strB_nnil, strB_nnil'] at hg; omega) rfl <| q_fld_ro (.t rfl rfl) (.u rfl id) fo_72_0 rfl <| q_ld1_ro (.t rfl rfl) (.u rfl id) rfl ic_9 rfl <| q_move (.t rfl rfl) (.t rfl) rfl <| q_move (.t rfl rfl) (.t rfl) rfl <| q_idx_rm (.t rfl rfl) (.u rfl id) (.u rfl id) sl_40 (fun hg => by simp only [Bool.and_eq_true, Bool.or_eq_true, Bool.not_eq_true', Bool.and_eq_false_iff, Bool.or_eq_false_iff, Bool.not_eq_false', decide_eq_true_eq, decide_eq_false_iff_not, beq_iff_eq, bne_iff_ne, beq_eq_false_iff_ne, bne_eq_false_iff_eq, Bool.true_and, ne_eq, Decidable.not_not, Int.not_lt, Int.not_le, Nat.not_lt, Nat.not_le, strB_nil, strB_nil', strB_nnil, strB_nnil'] at hg; omega) rfl <| q_fld_ro (.t rfl rfl) (.u rfl id) fo_72_0 rfl <| q_ld1_ro (.t rfl rfl) (.u rfl id) rfl ic_9 rfl <| q_strcmp (.t rfl rfl) (.u rfl id) (.u rfl id) rfl rfl <| q_and (.f rfl rfl) (.u rfl id) (.u rfl id) rfl <| q_or .n (.t rfl) (.u rfl id) rfl <| Lex.nil) (by kernel_rfl) ?_
        refine run_cond (.t rfl) rfl (fun h7 => ?_) (fun h7 => ?_)
        · try simp only [Bool.and_eq_true, Bool.or_eq_true, Bool.not_eq_true', Bool.and_eq_false_iff, Bool.or_eq_false_iff, Bool.not_eq_false', decide_eq_true_eq, decide_eq_false_iff_not, beq_iff_eq, bne_iff_ne, beq_eq_false_iff_ne, bne_eq_false_iff_eq, Bool.true_and, ne_eq, Decidable.not_not, Int.not_lt, Int.not_le, Nat.not_lt, Nat.not_le, strB_nil, strB_nil', strB_nnil, strB_nnil'] at h7
          refine run_seq ?_
          refine run_region (q_assign .n (.c rfl) rfl <| Lex.nil) ?_
          exact run_ret [] (.cons (.t rfl rfl) .nil) rfl trivial rfl
        · try simp only [Bool.and_eq_true, Bool.or_eq_true, Bool.not_eq_true', Bool.and_eq_false_iff, Bool.or_eq_false_iff, Bool.not_eq_false', decide_eq_true_eq, decide_eq_false_iff_not, beq_iff_eq, bne_iff_ne, beq_eq_false_iff_ne, bne_eq_false_iff_eq, Bool.true_and, ne_eq, Decidable.not_not, Int.not_lt, Int.not_le, Nat.not_lt, Nat.not_le, strB_nil, strB_nil', strB_nnil, strB_nnil'] at h7
          refine run_skip ?_
          refine run_endB ?_
          refine run_region (q_move .n (.t rfl) rfl <| q_add .n (.t rfl) (.c rfl) (fun _ => by omega) rfl <| q_assign .n (.t rfl) rfl <| Lex.nil) ?_
          exact run_again (x1 + 1) ⟨by omega, by omega⟩ (by omega) (sub_of [] ⟨rfl, rfl, rfl, trivial⟩ trivial rfl)
      · try simp only [Bool.and_eq_true, Bool.or_eq_true, Bool.not_eq_true', Bool.and_eq_false_iff, Bool.or_eq_false_iff, Bool.not_eq_false', decide_eq_true_eq, decide_eq_false_iff_not, beq_iff_eq, bne_iff_ne, beq_eq_false_iff_ne, bne_eq_false_iff_eq, Bool.true_and, ne_eq, Decidable.not_not, Int.not_lt, Int.not_le, Nat.not_lt, Nat.not_le, strB_nil, strB_nil', strB_nnil, strB_nnil'] at h6
        refine run_exit rfl ?_
        exact run_cont hk4 x1 ⟨by omega, by omega, by omega⟩ (sub_of [] trivial trivial rfl)

/-! ### spec_l19One -/
theorem c_spec_l19One (c_ : gCrew) : Con Try.prog 50 [.rp [.str c_.Id, .int .i64 c_.Junction, .int .i64 c_.Speed]] [] (.bool (m_spec_l19One c_)) ([]) := by
  refine con_intro (out := fun r : Bool => ((.bool r : V), ([] : List (Nat × Option O)))) (r := (m_spec_l19One c_)) Try.func50 rfl Try.ntmps50 rfl ?_
  refine run_seq ?_
  refine run_region (q_assign .n (.c rfl) rfl <| Lex.nil) ?_
  refine run_seq ?_
  refine run_region (q_move .n (.t rfl) rfl <| q_nilc_ro .n (.t rfl) rfl <| q_fld_ro .n (.t rfl) fo_71_0 rfl <| q_ld1_ro .n (.t rfl) rfl ic_9 rfl <| q_call0 (full := false) .n .f en_74 (.cons (.t rfl) .nil) (.cons (.b (.a (.same rfl))) .nil) (fun hg => c_spec_l01Name c_.Id) rfl (fun h => Bool.noConfusion h) rfl <| q_move .n (.t rfl) rfl <| q_move (.t rfl rfl) (.t rfl) rfl <| q_nilc_ro (.t rfl rfl) (.u rfl id) rfl <| q_fld_ro (.t rfl rfl) (.u rfl id) fo_71_1 rfl <| q_ld1_ro (.t rfl rfl) (.u rfl id) rfl ic_2 rfl <| q_call0 (full := false) (.t rfl rfl) .f en_27 (.cons (.u rfl id) (.cons (.c rfl) (.cons (.c rfl) .nil))) (.cons (.b (.a (.same rfl))) (.cons (.b (.a (.same rfl))) (.cons (.b (.a (.same rfl))) .nil))) (fun hg => c_spec_l00In c_.Junction 0 15) rfl (fun h => Bool.noConfusion h) rfl <| q_and .n (.t rfl) (.u rfl id) rfl <| q_move .n (.t rfl) rfl <| q_move (.t rfl rfl) (.t rfl) rfl <| q_nilc_ro (.t rfl rfl) (.u rfl id) rfl <| q_fld_ro (.t rfl rfl) (.u rfl id) fo_71_2 rfl <| q_ld1_ro (.t rfl rfl) (.u rfl id) rfl ic_2 rfl <| q_call0 (full := false) (.t rfl rfl) .f en_27 (.cons (.u rfl id) (.cons (.c rfl) (.cons (.c rfl) .nil))) (.cons (.b (.a (.same rfl))) (.cons (.b (.a (.same rfl))) (.cons (.b (.a (.same rfl))) .nil))) (fun hg => c_spec_l00In c_.Speed 10 300) rfl (fun h => Bool.noConfusion h) rfl <| q_and .n (.t rfl) (.u rfl id) rfl <| q_assign .n (.t rfl) rfl <| Lex.nil) ?_
  exact run_ret [] (.cons (.t rfl rfl) .nil) rfl trivial rfl

/-! ### spec_l19List -/
theorem c_spec_l19List (m_ : gMine) (list : List gCrew) : Con Try.prog 26 [.rp [.int .i64 m_.Junctions, .sl 7 (m_.Airways.map gAirway.v)], .sl 3 (list.map gCrew.v)] [] (.bool (m_spec_l19List m_ list)) ([]) := by
  refine con_intro (out := fun r : Bool => ((.bool r : V), ([] : List (Nat × Option O)))) (r := (m_spec_l19List m_ list)) Try.func26 rfl Try.ntmps26 rfl ?_
  refine run_factP (t := 0) 1 rfl rfl fun hl => ?_
  have l1 := hl; clear hl; simp only [List.length_map] at l1
  refine run_fact (t := 1) rfl fun hl => ?_
  have l2 := hl; clear hl; simp only [List.length_map] at l2
  refine run_seq ?_
  refine run_region (q_assign .n (.c rfl) rfl <| Lex.nil) ?_
  refine run_seq ?_
  refine run_seq ?_
  refine run_region (q_assign .n (.c rfl) rfl <| Lex.nil) ?_
  refine run_block ?_
  refine run_LOOP (m_spec_l19List_b1 m_ list) _ _ _ rfl (fun (x1 : Int) => 0 ≤ x1 ∧ x1 ≤ (list.length : Int)) (fun x1 => 0 ≤ x1 ∧ x1 ≤ (list.length : Int) ∧ (list.length : Int) ≤ x1) (fun x1 => ((list.length : Int) - x1 : Int).toNat) (fun x1 => ⟨[(0, some (true, .rp [.int .i64 m_.Junctions, .sl 7 (m_.Airways.map gAirway.v)])), (1, some (true, .sl 3 (list.map gCrew.v))), (5, some (true, .int .i64 x1))], []⟩) (fun x1 => ⟨[(1, some (true, .sl 3 (list.map gCrew.v)))], []⟩) ⟨by omega, by omega⟩ (by omega) (sub_of [] ⟨rfl, rfl, rfl, trivial⟩ trivial rfl) ?_ ?_
  · intro x1 i7
    obtain ⟨e8, e9, e10⟩ := i7
    try dsimp only at *
    refine run_seq ?_
    refine run_region (q_move .n (.t rfl) rfl <| q_len .n (.t rfl) rfl len_map ss_38 rfl <| q_int .n (.t rfl) (.c rfl) rfl rfl <| q_assign .n (.t rfl) rfl <| Lex.nil) ?_
    exact run_ret [] (.cons (.t rfl rfl) .nil) rfl trivial rfl
  · intro rec1 k1 hk3 x1 i4
    obtain ⟨e11, e12⟩ := i4
    try dsimp only at *
    refine run_seq ?_
    refine run_seq ?_
    refine run_region (q_move .n (.t rfl) rfl <| q_move .n (.t rfl) rfl <| q_len .n (.t rfl) rfl len_map ss_38 rfl <| q_int .n (.t rfl) (.t rfl) rfl rfl <| Lex.nil) ?_
    refine run_cond (.t rfl) rfl (fun h5 => ?_) (fun h5 => ?_)
    · try simp only [Bool.and_eq_true, Bool.or_eq_true, Bool.not_eq_true', Bool.and_eq_false_iff, Bool.or_eq_false_iff, Bool.not_eq_false', decide_eq_true_eq, decide_eq_false_iff_not, beq_iff_eq, bne_iff_ne, beq_eq_false_iff_ne, bne_eq_false_iff_eq, Bool.true_and, ne_eq, Decidable.not_not, Int.not_lt, Int.not_le, Nat.not_lt, Nat.not_le, strB_nil, strB_nil', strB_nnil, strB_nnil'] at h5
      refine run_skip ?_
      refine run_seq ?_
      refine run_block ?_
      refine run_seq ?_
      refine run_draw fmo (q_move .n (.t rfl) rfl <| q_move .n (.t rfl) rfl <| q_idx_rm .n (.t rfl) (.t rfl) sl_38 (fun _ => by omega) rfl <| q_call0 (full := false) .n .f en_50 (.cons (.t rfl) .nil) (.cons (.b (.a (.same rfl))) .nil) (fun hg => c_spec_l19One (at' list x1)) rfl (fun h => Bool.noConfusion h) rfl <| q_not .n (.t rfl) rfl <| q_move .n (.t rfl) rfl <| q_move (.f rfl rfl) (.t rfl) rfl <| q_move (.f rfl rfl) (.t rfl) rfl <| q_idx_rm (.f rfl rfl) (.u rfl id) (.u rfl id) sl_38 (fun hg => by simp only [Bool.and_eq_true, Bool.or_eq_true, Bool.not_eq_true', Bool.and_eq_false_iff, Bool.or_eq_false_iff, Bool.not_eq_false', decide_eq_true_eq, decide_eq_false_iff_not, beq_iff_eq, bne_iff_ne, beq_eq_false_iff_ne, bne_eq_false_iff_eq, Bool.true_and, ne_eq, Decidable.not_not, Int.not_lt, Int.not_le, Nat.not_lt, Nat.not_le, strB_nil, strB_nil', strB_nnil, strB_nnil'] at hg; omega) rfl <| q_fld_ro (.f rfl rfl) (.u rfl id) fo_71_1 rfl <| q_ld1_ro (.f rfl rfl) (.u rfl id) rfl ic_2 rfl <| q_move (.f rfl rfl) (.t rfl) rfl <| q_nilc_ro (.f rfl rfl) (.u rfl id) rfl <| q_fld_ro (.f rfl rfl) (.u rfl id) fo_35_0 rfl <| q_ld1_ro (.f rfl rfl) (.u rfl id) rfl ic_2 rfl <| q_int (.f rfl rfl) (.u rfl id) (.u rfl id) rfl rfl <| q_or .n (.t rfl) (.u rfl id) rfl <| q_move .n (.t rfl) rfl <| q_move (.f rfl rfl) (.t rfl) rfl <| q_int (.f rfl rfl) (.u rfl id) (.c rfl) rfl rfl <| q_move (.f rfl rfl) (.u rfl id) rfl <| q_move (.t rfl rfl) (.t rfl) rfl <| q_move (.t rfl rfl) (.t rfl) rfl <| q_sub (.t rfl rfl) (.u rfl id) (.c rfl) (fun hg => by simp only [Bool.and_eq_true, Bool.or_eq_true, Bool.not_eq_true', Bool.and_eq_false_iff, Bool.or_eq_false_iff, Bool.not_eq_false', decide_eq_true_eq, decide_eq_false_iff_not, beq_iff_eq, bne_iff_ne, beq_eq_false_iff_ne, bne_eq_false_iff_eq, Bool.true_and, ne_eq, Decidable.not_not, Int.not_lt, Int.not_le, Nat.not_lt, Nat.not_le, strB_nil, strB_nil', strB_nnil, strB_nnil'] at hg; omega) rfl <| q_idx_rm (.t rfl rfl) (.u rfl id) (.u rfl id) sl_38 (fun hg => by simp only [Bool.and_eq_true, Bool.or_eq_true, Bool.not_eq_true', Bool.and_eq_false_iff, Bool.or_eq_false_iff, Bool.not_eq_false', decide_eq_true_eq, decide_eq_false_iff_not, beq_iff_eq, bne_iff_ne, beq_eq_false_iff_ne, bne_eq_false_iff_eq, Bool.true_and, ne_eq, Decidable.not_not, Int.not_lt, Int.not_le, Nat.not_lt, Nat.not_le, strB_nil, strB_nil', strB_nnil, strB_nnil'] at hg; omega) rfl <| q_fld_ro (.t rfl rfl) (.u rfl id) fo_71_0 rfl <| q_ld1_ro (.t rfl rfl) (.u rfl id) rfl ic_9 rfl <| q_move (.t rfl rfl) (.t rfl) rfl <| q_move (.t rfl rfl) (.t rfl) rfl <| q_idx_rm (.t rfl rfl) (.u rfl id) (.u rfl id) sl_38 (fun hg => by simp only [Bool.and_eq_true, Bool.or_eq_true, Bool.not_eq_true', Bool.and_eq_false_iff, Bool.or_eq_false_iff, Bool.not_eq_false', decide_eq_true_eq, decide_eq_false_iff_not, beq_iff_eq, bne_iff_ne, beq_eq_false_iff_ne, bne_eq_false_iff_eq, Bool.true_and, ne_eq, Decidable.not_not, Int.not_lt, Int.not_le, Nat.not_lt, Nat.not_le, strB_nil, strB_nil', strB_nnil, strB_nnil'] at hg; omega) rfl <| q_fld_ro (.t rfl rfl) (.u rfl id) fo_71_0 rfl <| q_ld1_ro (.t rfl rfl) (.u rfl id) rfl ic_9 rfl <| q_strcmp (.t rfl rfl) (.u rfl id) (.u rfl id) rfl rfl <| q_and (.f rfl rfl) (.u rfl id) (.u rfl id) rfl <| q_or .n (.t rfl) (.u rfl id) rfl <| Lex.nil) (by kernel_rfl) ?_
      refine run_cond (.t rfl) rfl (fun h6 => ?_) (fun h6 => ?_)
      · try simp only [Bool.and_eq_true, Bool.or_eq_true, Bool.not_eq_true', Bool.and_eq_false_iff, Bool.or_eq_false_iff, Bool.not_eq_false', decide_eq_true_eq, decide_eq_false_iff_not, beq_iff_eq, bne_iff_ne, beq_eq_false_iff_ne, bne_eq_false_iff_eq, Bool.true_and, ne_eq, Decidable.not_not, Int.not_lt, Int.not_le, Nat.not_lt, Nat.not_le, strB_nil, strB_nil', strB_nnil, strB_nnil'] at h6
        refine run_seq ?_
        refine run_region (q_assign .n (.c rfl) rfl <| Lex.nil) ?_
        exact run_ret [] (.cons (.t rfl rfl) .nil) rfl trivial rfl
      · try simp only [Bool.and_eq_true, Bool.or_eq_true, Bool.not_eq_true', Bool.and_eq_false_iff, Bool.or_eq_false_iff, Bool.not_eq_false', decide_eq_true_eq, decide_eq_false_iff_not, beq_iff_eq, bne_iff_ne, beq_eq_false_iff_ne, bne_eq_false_iff_eq, Bool.true_and, ne_eq, Decidable.not_not, Int.not_lt, Int.not_le, Nat.not_lt, Nat.not_le, strB_nil, strB_nil', strB_nnil, strB_nnil'] at h6
        refine run_skip ?_
        refine run_endB ?_
        refine run_region (q_move .n (.t rfl) rfl <| q_add .n (.t rfl) (.c rfl) (fun _ => by omega) rfl <| q_assign .n (.t rfl) rfl <| Lex.nil) ?_
        exact run_again (x1 + 1) ⟨by omega, by omega⟩ (by omega) (sub_of [] ⟨rfl, rfl, rfl, trivial⟩ trivial rfl)
    · try simp only [Bool.and_eq_true, Bool.or_eq_true, Bool.not_eq_true', Bool.and_eq_false_iff, Bool.or_eq_false_iff, Bool.not_eq_false', decide_eq_true_eq, decide_eq_false_iff_not, beq_iff_eq, bne_iff_ne, beq_eq_false_iff_ne, bne_eq_false_iff_eq, Bool.true_and, ne_eq, Decidable.not_not, Int.not_lt, Int.not_le, Nat.not_lt, Nat.not_le, strB_nil, strB_nil', strB_nnil, strB_nnil'] at h5
      refine run_exit rfl ?_
      exact run_cont hk3 x1 ⟨by omega, by omega, by omega⟩ (sub_of [] ⟨rfl, trivial⟩ trivial rfl)

/-! ### spec_l17Time -/
theorem c_spec_l17Time (t : Int) : Con Try.prog 28 [.int .i64 t] [] (.bool (m_spec_l17Time t)) ([]) := by
  refine con_intro (out := fun r : Bool => ((.bool r : V), ([] : List (Nat × Option O)))) (r := (m_spec_l17Time t)) Try.func28 rfl Try.ntmps28 rfl ?_
  refine run_seq ?_
  refine run_region (q_assign .n (.c rfl) rfl <| Lex.nil) ?_
  refine run_seq ?_
  refine run_region (q_move .n (.t rfl) rfl <| q_call0 (full := false) .n .f en_27 (.cons (.t rfl) (.cons (.c rfl) (.cons (.c rfl) .nil))) (.cons (.b (.a (.same rfl))) (.cons (.b (.a (.same rfl))) (.cons (.b (.a (.same rfl))) .nil))) (fun hg => c_spec_l00In t 0 36000) rfl (fun h => Bool.noConfusion h) rfl <| q_assign .n (.t rfl) rfl <| Lex.nil) ?_
  exact run_ret [] (.cons (.t rfl rfl) .nil) rfl trivial rfl

/-! ### spec_l19Arrivals -/
theorem c_spec_l19Arrivals (m_ : gMine) (arrivals : List Int) : Con Try.prog 29 [.rp [.int .i64 m_.Junctions, .sl 7 (m_.Airways.map gAirway.v)], .sl 1 (arrivals.map (V.int .i64))] [] (.bool (m_spec_l19Arrivals m_ arrivals)) ([]) := by
  refine con_intro (out := fun r : Bool => ((.bool r : V), ([] : List (Nat × Option O)))) (r := (m_spec_l19Arrivals m_ arrivals)) Try.func29 rfl Try.ntmps29 rfl ?_
  refine run_factP (t := 0) 1 rfl rfl fun hl => ?_
  have l1 := hl; clear hl; simp only [List.length_map] at l1
  refine run_fact (t := 1) rfl fun hl => ?_
  have l2 := hl; clear hl; simp only [List.length_map] at l2
  refine run_seq ?_
  refine run_region (q_assign .n (.c rfl) rfl <| Lex.nil) ?_
  refine run_seq ?_
  refine run_seq ?_
  refine run_region (q_assign .n (.c rfl) rfl <| Lex.nil) ?_
  refine run_block ?_
  refine run_LOOP (m_spec_l19Arrivals_b1 m_ arrivals) _ _ _ rfl (fun (x1 : Int) => 0 ≤ x1 ∧ x1 ≤ (arrivals.length : Int)) (fun x1 => 0 ≤ x1 ∧ x1 ≤ (arrivals.length : Int) ∧ (arrivals.length : Int) ≤ x1) (fun x1 => ((arrivals.length : Int) - x1 : Int).toNat) (fun x1 => ⟨[(0, some (true, .rp [.int .i64 m_.Junctions, .sl 7 (m_.Airways.map gAirway.v)])), (1, some (true, .sl 1 (arrivals.map (V.int .i64)))), (5, some (true, .int .i64 x1))], []⟩) (fun x1 => ⟨[(0, some (true, .rp [.int .i64 m_.Junctions, .sl 7 (m_.Airways.map gAirway.v)])), (1, some (true, .sl 1 (arrivals.map (V.int .i64))))], []⟩) ⟨by omega, by omega⟩ (by omega) (sub_of [] ⟨rfl, rfl, rfl, trivial⟩ trivial rfl) ?_ ?_
  · intro x1 i7
    obtain ⟨e8, e9, e10⟩ := i7
    try dsimp only at *
    refine run_seq ?_
    refine run_region (q_move .n (.t rfl) rfl <| q_len .n (.t rfl) rfl len_map ss_25 rfl <| q_move .n (.t rfl) rfl <| q_nilc_ro .n (.t rfl) rfl <| q_fld_ro .n (.t rfl) fo_35_0 rfl <| q_ld1_ro .n (.t rfl) rfl ic_2 rfl <| q_int .n (.t rfl) (.t rfl) rfl rfl <| q_assign .n (.t rfl) rfl <| Lex.nil) ?_
    exact run_ret [] (.cons (.t rfl rfl) .nil) rfl trivial rfl
  · intro rec1 k1 hk3 x1 i4
    obtain ⟨e11, e12⟩ := i4
    try dsimp only at *
    refine run_seq ?_
    refine run_seq ?_
    refine run_region (q_move .n (.t rfl) rfl <| q_move .n (.t rfl) rfl <| q_len .n (.t rfl) rfl len_map ss_25 rfl <| q_int .n (.t rfl) (.t rfl) rfl rfl <| Lex.nil) ?_
    refine run_cond (.t rfl) rfl (fun h5 => ?_) (fun h5 => ?_)
    · try simp only [Bool.and_eq_true, Bool.or_eq_true, Bool.not_eq_true', Bool.and_eq_false_iff, Bool.or_eq_false_iff, Bool.not_eq_false', decide_eq_true_eq, decide_eq_false_iff_not, beq_iff_eq, bne_iff_ne, beq_eq_false_iff_ne, bne_eq_false_iff_eq, Bool.true_and, ne_eq, Decidable.not_not, Int.not_lt, Int.not_le, Nat.not_lt, Nat.not_le, strB_nil, strB_nil', strB_nnil, strB_nnil'] at h5
      refine run_skip ?_
      refine run_seq ?_
      refine run_block ?_
      refine run_seq ?_
      refine run_region (q_move .n (.t rfl) rfl <| q_move .n (.t rfl) rfl <| q_idx_rm .n (.t rfl) (.t rfl) sl_25 (fun _ => by omega) rfl <| q_ld1_ro .n (.t rfl) rfl ic_2 rfl <| q_call0 (full := false) .n .f en_27 (.cons (.t rfl) (.cons (.c rfl) (.cons (.c rfl) .nil))) (.cons (.b (.a (.same rfl))) (.cons (.b (.a (.same rfl))) (.cons (.b (.a (.same rfl))) .nil))) (fun hg => c_spec_l00In (at' arrivals x1) (-1) 1000000000000) rfl (fun h => Bool.noConfusion h) rfl <| q_not .n (.t rfl) rfl <| Lex.nil) ?_
      refine run_cond (.t rfl) rfl (fun h6 => ?_) (fun h6 => ?_)
      · try simp only [Bool.and_eq_true, Bool.or_eq_true, Bool.not_eq_true', Bool.and_eq_false_iff, Bool.or_eq_false_iff, Bool.not_eq_false', decide_eq_true_eq, decide_eq_false_iff_not, beq_iff_eq, bne_iff_ne, beq_eq_false_iff_ne, bne_eq_false_iff_eq, Bool.true_and, ne_eq, Decidable.not_not, Int.not_lt, Int.not_le, Nat.not_lt, Nat.not_le, strB_nil, strB_nil', strB_nnil, strB_nnil'] at h6
        try have hf0h6 := l00In_imp h6
        try have hf1h6 := l00In_imp h6.1
        try have hf2h6 := l00In_imp h6.2
        try have hf3h6 := l00In_imp h6.1.1
        try have hf4h6 := l00In_imp h6.1.2
        try have hf5h6 := l00In_imp h6.2.1
        try have hf6h6 := l00In_imp h6.2.2
        refine run_seq ?_
        refine run_region (q_assign .n (.c rfl) rfl <| Lex.nil) ?_
        exact run_ret [] (.cons (.t rfl rfl) .nil) rfl trivial rfl
      · try simp only [Bool.and_eq_true, Bool.or_eq_true, Bool.not_eq_true', Bool.and_eq_false_iff, Bool.or_eq_false_iff, Bool.not_eq_false', decide_eq_true_eq, decide_eq_false_iff_not, beq_iff_eq, bne_iff_ne, beq_eq_false_iff_ne, bne_eq_false_iff_eq, Bool.true_and, ne_eq, Decidable.not_not, Int.not_lt, Int.not_le, Nat.not_lt, Nat.not_le, strB_nil, strB_nil', strB_nnil, strB_nnil'] at h6
        try have hf0h6 := l00In_imp h6
        try have hf1h6 := l00In_imp h6.1
        try have hf2h6 := l00In_imp h6.2
        try have hf3h6 := l00In_imp h6.1.1
        try have hf4h6 := l00In_imp h6.1.2
        try have hf5h6 := l00In_imp h6.2.1
        try have hf6h6 := l00In_imp h6.2.2
        refine run_skip ?_
        refine run_endB ?_
        refine run_region (q_move .n (.t rfl) rfl <| q_add .n (.t rfl) (.c rfl) (fun _ => by omega) rfl <| q_assign .n (.t rfl) rfl <| Lex.nil) ?_
        exact run_again (x1 + 1) ⟨by omega, by omega⟩ (by omega) (sub_of [] ⟨rfl, rfl, rfl, trivial⟩ trivial rfl)
    · try simp only [Bool.and_eq_true, Bool.or_eq_true, Bool.not_eq_true', Bool.and_eq_false_iff, Bool.or_eq_false_iff, Bool.not_eq_false', decide_eq_true_eq, decide_eq_false_iff_not, beq_iff_eq, bne_iff_ne, beq_eq_false_iff_ne, bne_eq_false_iff_eq, Bool.true_and, ne_eq, Decidable.not_not, Int.not_lt, Int.not_le, Nat.not_lt, Nat.not_le, strB_nil, strB_nil', strB_nnil, strB_nnil'] at h5
      refine run_exit rfl ?_
      exact run_cont hk3 x1 ⟨by omega, by omega, by omega⟩ (sub_of [] ⟨rfl, rfl, trivial⟩ trivial rfl)

/-! ### spec_l20Sizes -/
theorem c_spec_l20Sizes (sizes : List Int) : Con Try.prog 30 [.sl 1 (sizes.map (V.int .i64))] [] (.bool (m_spec_l20Sizes sizes)) ([]) := by
  refine con_intro (out := fun r : Bool => ((.bool r : V), ([] : List (Nat × Option O)))) (r := (m_spec_l20Sizes sizes)) Try.func30 rfl Try.ntmps30 rfl ?_
  refine run_fact (t := 0) rfl fun hl => ?_
  have l1 := hl; clear hl; simp only [List.length_map] at l1
  refine run_seq ?_
  refine run_region (q_assign .n (.c rfl) rfl <| Lex.nil) ?_
  refine run_seq ?_
  refine run_seq ?_
  refine run_region (q_assign .n (.c rfl) rfl <| Lex.nil) ?_
  refine run_block ?_
  refine run_LOOP (m_spec_l20Sizes_b1 sizes) _ _ _ rfl (fun (x1 : Int) => 0 ≤ x1 ∧ x1 ≤ (sizes.length : Int)) (fun x1 => 0 ≤ x1 ∧ x1 ≤ (sizes.length : Int) ∧ (sizes.length : Int) ≤ x1) (fun x1 => ((sizes.length : Int) - x1 : Int).toNat) (fun x1 => ⟨[(0, some (true, .sl 1 (sizes.map (V.int .i64)))), (3, some (true, .int .i64 x1))], []⟩) (fun x1 => ⟨[], []⟩) ⟨by omega, by omega⟩ (by omega) (sub_of [] ⟨rfl, rfl, trivial⟩ trivial rfl) ?_ ?_
  · intro x1 i6
    obtain ⟨e7, e8, e9⟩ := i6
    try dsimp only at *
    refine run_seq ?_
    refine run_region (q_assign .n (.c rfl) rfl <| Lex.nil) ?_
    exact run_ret [] (.cons (.t rfl rfl) .nil) rfl trivial rfl
  · intro rec1 k1 hk2 x1 i3
    obtain ⟨e10, e11⟩ := i3
    try dsimp only at *
    refine run_seq ?_
    refine run_seq ?_
    refine run_region (q_move .n (.t rfl) rfl <| q_move .n (.t rfl) rfl <| q_len .n (.t rfl) rfl len_map ss_25 rfl <| q_int .n (.t rfl) (.t rfl) rfl rfl <| Lex.nil) ?_
    refine run_cond (.t rfl) rfl (fun h4 => ?_) (fun h4 => ?_)
    · try simp only [Bool.and_eq_true, Bool.or_eq_true, Bool.not_eq_true', Bool.and_eq_false_iff, Bool.or_eq_false_iff, Bool.not_eq_false', decide_eq_true_eq, decide_eq_false_iff_not, beq_iff_eq, bne_iff_ne, beq_eq_false_iff_ne, bne_eq_false_iff_eq, Bool.true_and, ne_eq, Decidable.not_not, Int.not_lt, Int.not_le, Nat.not_lt, Nat.not_le, strB_nil, strB_nil', strB_nnil, strB_nnil'] at h4
      refine run_skip ?_
      refine run_seq ?_
      refine run_block ?_
      refine run_seq ?_
      refine run_region (q_move .n (.t rfl) rfl <| q_move .n (.t rfl) rfl <| q_idx_rm .n (.t rfl) (.t rfl) sl_25 (fun _ => by omega) rfl <| q_ld1_ro .n (.t rfl) rfl ic_2 rfl <| q_call0 (full := false) .n .f en_27 (.cons (.t rfl) (.cons (.c rfl) (.cons (.c rfl) .nil))) (.cons (.b (.a (.same rfl))) (.cons (.b (.a (.same rfl))) (.cons (.b (.a (.same rfl))) .nil))) (fun hg => c_spec_l00In (at' sizes x1) 1 200) rfl (fun h => Bool.noConfusion h) rfl <| q_not .n (.t rfl) rfl <| Lex.nil) ?_
      refine run_cond (.t rfl) rfl (fun h5 => ?_) (fun h5 => ?_)
      · try simp only [Bool.and_eq_true, Bool.or_eq_true, Bool.not_eq_true', Bool.and_eq_false_iff, Bool.or_eq_false_iff, Bool.not_eq_false', decide_eq_true_eq, decide_eq_false_iff_not, beq_iff_eq, bne_iff_ne, beq_eq_false_iff_ne, bne_eq_false_iff_eq, Bool.true_and, ne_eq, Decidable.not_not, Int.not_lt, Int.not_le, Nat.not_lt, Nat.not_le, strB_nil, strB_nil', strB_nnil, strB_nnil'] at h5
        try have hf0h5 := l00In_imp h5
        try have hf1h5 := l00In_imp h5.1
        try have hf2h5 := l00In_imp h5.2
        try have hf3h5 := l00In_imp h5.1.1
        try have hf4h5 := l00In_imp h5.1.2
        try have hf5h5 := l00In_imp h5.2.1
        try have hf6h5 := l00In_imp h5.2.2
        refine run_seq ?_
        refine run_region (q_assign .n (.c rfl) rfl <| Lex.nil) ?_
        exact run_ret [] (.cons (.t rfl rfl) .nil) rfl trivial rfl
      · try simp only [Bool.and_eq_true, Bool.or_eq_true, Bool.not_eq_true', Bool.and_eq_false_iff, Bool.or_eq_false_iff, Bool.not_eq_false', decide_eq_true_eq, decide_eq_false_iff_not, beq_iff_eq, bne_iff_ne, beq_eq_false_iff_ne, bne_eq_false_iff_eq, Bool.true_and, ne_eq, Decidable.not_not, Int.not_lt, Int.not_le, Nat.not_lt, Nat.not_le, strB_nil, strB_nil', strB_nnil, strB_nnil'] at h5
        try have hf0h5 := l00In_imp h5
        try have hf1h5 := l00In_imp h5.1
        try have hf2h5 := l00In_imp h5.2
        try have hf3h5 := l00In_imp h5.1.1
        try have hf4h5 := l00In_imp h5.1.2
        try have hf5h5 := l00In_imp h5.2.1
        try have hf6h5 := l00In_imp h5.2.2
        refine run_skip ?_
        refine run_endB ?_
        refine run_region (q_move .n (.t rfl) rfl <| q_add .n (.t rfl) (.c rfl) (fun _ => by omega) rfl <| q_assign .n (.t rfl) rfl <| Lex.nil) ?_
        exact run_again (x1 + 1) ⟨by omega, by omega⟩ (by omega) (sub_of [] ⟨rfl, rfl, trivial⟩ trivial rfl)
    · try simp only [Bool.and_eq_true, Bool.or_eq_true, Bool.not_eq_true', Bool.and_eq_false_iff, Bool.or_eq_false_iff, Bool.not_eq_false', decide_eq_true_eq, decide_eq_false_iff_not, beq_iff_eq, bne_iff_ne, beq_eq_false_iff_ne, bne_eq_false_iff_eq, Bool.true_and, ne_eq, Decidable.not_not, Int.not_lt, Int.not_le, Nat.not_lt, Nat.not_le, strB_nil, strB_nil', strB_nnil, strB_nnil'] at h4
      refine run_exit rfl ?_
      exact run_cont hk2 x1 ⟨by omega, by omega, by omega⟩ (sub_of [] trivial trivial rfl)

/-! ### spec_l19Safe -/
theorem c_spec_l19Safe (arrivals : List Int) (j : Int) (time : Int) (hp1 : 0 ≤ j ∧ j < arrivals.length) : Con Try.prog 51 [.sl 1 (arrivals.map (V.int .i64)), .int .i64 j, .int .i64 time] [] (.bool (m_spec_l19Safe arrivals j time)) ([]) := by
  refine con_intro (out := fun r : Bool => ((.bool r : V), ([] : List (Nat × Option O)))) (r := (m_spec_l19Safe arrivals j time)) Try.func51 rfl Try.ntmps51 rfl ?_
  refine run_fact (t := 0) rfl fun hl => ?_
  have l1 := hl; clear hl; simp only [List.length_map] at l1
  refine run_seq ?_
  refine run_region (q_assign .n (.c rfl) rfl <| Lex.nil) ?_
  refine run_seq ?_
  refine run_region (q_move .n (.t rfl) rfl <| q_move .n (.t rfl) rfl <| q_idx_rm .n (.t rfl) (.t rfl) sl_25 (fun _ => by omega) rfl <| q_ld1_ro .n (.t rfl) rfl ic_2 rfl <| q_int .n (.t rfl) (.c rfl) rfl rfl <| q_move .n (.t rfl) rfl <| q_move (.f rfl rfl) (.t rfl) rfl <| q_move (.f rfl rfl) (.t rfl) rfl <| q_move (.f rfl rfl) (.t rfl) rfl <| q_idx_rm (.f rfl rfl) (.u rfl id) (.u rfl id) sl_25 (fun hg => by simp only [Bool.and_eq_true, Bool.or_eq_true, Bool.not_eq_true', Bool.and_eq_false_iff, Bool.or_eq_false_iff, Bool.not_eq_false', decide_eq_true_eq, decide_eq_false_iff_not, beq_iff_eq, bne_iff_ne, beq_eq_false_iff_ne, bne_eq_false_iff_eq, Bool.true_and, ne_eq, Decidable.not_not, Int.not_lt, Int.not_le, Nat.not_lt, Nat.not_le, strB_nil, strB_nil', strB_nnil, strB_nnil'] at hg; omega) rfl <| q_ld1_ro (.f rfl rfl) (.u rfl id) rfl ic_2 rfl <| q_int (.f rfl rfl) (.u rfl id) (.u rfl id) rfl rfl <| q_or .n (.t rfl) (.u rfl id) rfl <| q_assign .n (.t rfl) rfl <| Lex.nil) ?_
  exact run_ret [] (.cons (.t rfl rfl) .nil) rfl trivial rfl

/-! ### spec_l19Walk -/
theorem c_spec_l19Walk (a : gAirway) (speed : Int) (hp1 : 10 ≤ speed ∧ speed ≤ 300) : Con Try.prog 52 [.rp [.str a.Id, .int .i64 a.From, .int .i64 a.To, .int .i64 a.Length, .int .i64 a.Section, .int .i64 a.Friction, .int .i64 a.Shock], .int .i64 speed] [] (.int .i64 (m_spec_l19Walk a speed)) ([]) := by
  refine con_intro (out := fun r : Int => ((.int .i64 r : V), ([] : List (Nat × Option O)))) (r := (m_spec_l19Walk a speed)) Try.func52 rfl Try.ntmps52 rfl ?_
  refine run_seq ?_
  refine run_region (q_assign .n (.c rfl) rfl <| Lex.nil) ?_
  refine run_seq ?_
  refine run_region (q_move .n (.t rfl) rfl <| q_nilc_ro .n (.t rfl) rfl <| q_fld_ro .n (.t rfl) fo_99_3 rfl <| q_ld1_ro .n (.t rfl) rfl ic_2 rfl <| q_int .n (.c rfl) (.t rfl) rfl rfl <| q_move .n (.t rfl) rfl <| q_int .n (.t rfl) (.t rfl) rfl rfl <| q_int .n (.t rfl) (.c rfl) rfl rfl <| q_move .n (.t rfl) rfl <| q_quo .n (.t rfl) (.t rfl) (fun hg => by omega) rfl <| q_assign .n (.t rfl) rfl <| Lex.nil) ?_
  exact run_ret [] (.cons (.t rfl rfl) .nil) rfl trivial rfl

/-! ### spec_l19Go -/
theorem c_spec_l19Go (arrivals : List Int) (times : List Int) (from_ : Int) (to : Int) (n_ : Int) (hp1 : 0 ≤ from_ ∧ from_ < times.length) (hp2 : 0 ≤ to ∧ to < times.length) (hp3 : times.length = arrivals.length) : Con Try.prog 53 [.sl 1 (arrivals.map (V.int .i64)), .os 1 times.length, .int .i64 from_, .int .i64 to, .int .i64 n_] [(1, some (.row 2 1 (times.map (V.int .i64))))] (.tup []) ([(1, some (.row 2 1 ((m_spec_l19Go arrivals times from_ to n_).map (V.int .i64))))]) := by
  refine con_intro (out := fun r : (List Int) => ((.tup [] : V), ([(1, some (.row 2 1 (r.map (V.int .i64))))] : List (Nat × Option O)))) (r := (m_spec_l19Go arrivals times from_ to n_)) Try.func53 rfl Try.ntmps53 rfl ?_
  refine run_fact (t := 0) rfl fun hl => ?_
  have l1 := hl; clear hl; simp only [List.length_map] at l1
  refine run_factH (l := 1) rfl fun hl => ?_
  have l2 := hl; clear hl; simp only [List.length_map] at l2
  refine run_seq ?_
  refine run_seq ?_
  refine run_region (q_move .n (.t rfl) rfl <| q_move .n (.t rfl) rfl <| q_idx_ow .n (.t rfl) (.t rfl) sl_25 (fun _ => by omega) rfl <| q_ld1_row .n (.t rfl) rfl (fun _ => by omega) rfl rfl rfl ic_2 rfl <| q_int .n (.t rfl) (.c rfl) rfl rfl <| Lex.nil) ?_
  refine run_cond (.t rfl) rfl (fun h3 => ?_) (fun h3 => ?_)
  · try simp only [Bool.and_eq_true, Bool.or_eq_true, Bool.not_eq_true', Bool.and_eq_false_iff, Bool.or_eq_false_iff, Bool.not_eq_false', decide_eq_true_eq, decide_eq_false_iff_not, beq_iff_eq, bne_iff_ne, beq_eq_false_iff_ne, bne_eq_false_iff_eq, Bool.true_and, ne_eq, Decidable.not_not, Int.not_lt, Int.not_le, Nat.not_lt, Nat.not_le, strB_nil, strB_nil', strB_nnil, strB_nnil'] at h3
    exact run_ret [] .nil rfl ⟨rfl, trivial⟩ rfl
  · try simp only [Bool.and_eq_true, Bool.or_eq_true, Bool.not_eq_true', Bool.and_eq_false_iff, Bool.or_eq_false_iff, Bool.not_eq_false', decide_eq_true_eq, decide_eq_false_iff_not, beq_iff_eq, bne_iff_ne, beq_eq_false_iff_ne, bne_eq_false_iff_eq, Bool.true_and, ne_eq, Decidable.not_not, Int.not_lt, Int.not_le, Nat.not_lt, Nat.not_le, strB_nil, strB_nil', strB_nnil, strB_nnil'] at h3
    refine run_skip ?_
    refine run_seq ?_
    refine run_region (q_move .n (.t rfl) rfl <| q_move .n (.t rfl) rfl <| q_idx_ow .n (.t rfl) (.t rfl) sl_25 (fun _ => by omega) rfl <| q_ld1_row .n (.t rfl) rfl (fun _ => by omega) rfl rfl rfl ic_2 rfl <| q_move .n (.t rfl) rfl <| q_int .n (.t rfl) (.t rfl) rfl rfl <| q_assign .n (.t rfl) rfl <| Lex.nil) ?_
    refine run_seq ?_
    refine run_region (q_move .n (.t rfl) rfl <| q_move .n (.t rfl) rfl <| q_move .n (.t rfl) rfl <| q_call0 (full := false) .n .f en_51 (.cons (.t rfl) (.cons (.t rfl) (.cons (.t rfl) .nil))) (.cons (.b (.a (.same rfl))) (.cons (.b (.a (.same rfl))) (.cons (.b (.a (.same rfl))) .nil))) (fun hg => c_spec_l19Safe arrivals to (IntKind.wrap .i64 ((at' times from_) + n_)) (by omega)) rfl (fun h => Bool.noConfusion h) rfl <| q_move .n (.t rfl) rfl <| q_move (.t rfl rfl) (.t rfl) rfl <| q_move (.t rfl rfl) (.t rfl) rfl <| q_idx_ow (.t rfl rfl) (.u rfl id) (.u rfl id) sl_25 (fun hg => by simp only [Bool.and_eq_true, Bool.or_eq_true, Bool.not_eq_true', Bool.and_eq_false_iff, Bool.or_eq_false_iff, Bool.not_eq_false', decide_eq_true_eq, decide_eq_false_iff_not, beq_iff_eq, bne_iff_ne, beq_eq_false_iff_ne, bne_eq_false_iff_eq, Bool.true_and, ne_eq, Decidable.not_not, Int.not_lt, Int.not_le, Nat.not_lt, Nat.not_le, strB_nil, strB_nil', strB_nnil, strB_nnil'] at hg; omega) rfl <| q_ld1_row (.t rfl rfl) (.u rfl id) rfl (fun hg => by simp only [Bool.and_eq_true, Bool.or_eq_true, Bool.not_eq_true', Bool.and_eq_false_iff, Bool.or_eq_false_iff, Bool.not_eq_false', decide_eq_true_eq, decide_eq_false_iff_not, beq_iff_eq, bne_iff_ne, beq_eq_false_iff_ne, bne_eq_false_iff_eq, Bool.true_and, ne_eq, Decidable.not_not, Int.not_lt, Int.not_le, Nat.not_lt, Nat.not_le, strB_nil, strB_nil', strB_nnil, strB_nnil'] at hg; omega) rfl rfl rfl ic_2 rfl <| q_int (.t rfl rfl) (.u rfl id) (.c rfl) rfl rfl <| q_move (.t rfl rfl) (.u rfl id) rfl <| q_move (.f rfl rfl) (.t rfl) rfl <| q_move (.f rfl rfl) (.t rfl) rfl <| q_move (.f rfl rfl) (.t rfl) rfl <| q_idx_ow (.f rfl rfl) (.u rfl id) (.u rfl id) sl_25 (fun hg => by simp only [Bool.and_eq_true, Bool.or_eq_true, Bool.not_eq_true', Bool.and_eq_false_iff, Bool.or_eq_false_iff, Bool.not_eq_false', decide_eq_true_eq, decide_eq_false_iff_not, beq_iff_eq, bne_iff_ne, beq_eq_false_iff_ne, bne_eq_false_iff_eq, Bool.true_and, ne_eq, Decidable.not_not, Int.not_lt, Int.not_le, Nat.not_lt, Nat.not_le, strB_nil, strB_nil', strB_nnil, strB_nnil'] at hg; omega) rfl <| q_ld1_row (.f rfl rfl) (.u rfl id) rfl (fun hg => by simp only [Bool.and_eq_true, Bool.or_eq_true, Bool.not_eq_true', Bool.and_eq_false_iff, Bool.or_eq_false_iff, Bool.not_eq_false', decide_eq_true_eq, decide_eq_false_iff_not, beq_iff_eq, bne_iff_ne, beq_eq_false_iff_ne, bne_eq_false_iff_eq, Bool.true_and, ne_eq, Decidable.not_not, Int.not_lt, Int.not_le, Nat.not_lt, Nat.not_le, strB_nil, strB_nil', strB_nnil, strB_nnil'] at hg; omega) rfl rfl rfl ic_2 rfl <| q_int (.f rfl rfl) (.u rfl id) (.u rfl id) rfl rfl <| q_or (.t rfl rfl) (.u rfl id) (.u rfl id) rfl <| q_and .n (.t rfl) (.u rfl id) rfl <| Lex.nil) ?_
    refine run_cond (.t rfl) rfl (fun h4 => ?_) (fun h4 => ?_)
    · try simp only [Bool.and_eq_true, Bool.or_eq_true, Bool.not_eq_true', Bool.and_eq_false_iff, Bool.or_eq_false_iff, Bool.not_eq_false', decide_eq_true_eq, decide_eq_false_iff_not, beq_iff_eq, bne_iff_ne, beq_eq_false_iff_ne, bne_eq_false_iff_eq, Bool.true_and, ne_eq, Decidable.not_not, Int.not_lt, Int.not_le, Nat.not_lt, Nat.not_le, strB_nil, strB_nil', strB_nnil, strB_nnil'] at h4
      refine run_region (q_move .n (.t rfl) rfl <| q_move .n (.t rfl) rfl <| q_move .n (.t rfl) rfl <| q_idx_ow .n (.t rfl) (.t rfl) sl_25 (fun _ => by omega) rfl <| q_st_rowm (IntKind.wrap .i64 ((at' times from_) + n_)) .n rfl (.t rfl) (.t rfl) rfl ts_2 (by omega) rfl rfl <| Lex.nil) ?_
      exact run_end [] .nil rfl ⟨rfl, trivial⟩ rfl
    · try simp only [Bool.and_eq_true, Bool.or_eq_true, Bool.not_eq_true', Bool.and_eq_false_iff, Bool.or_eq_false_iff, Bool.not_eq_false', decide_eq_true_eq, decide_eq_false_iff_not, beq_iff_eq, bne_iff_ne, beq_eq_false_iff_ne, bne_eq_false_iff_eq, Bool.true_and, ne_eq, Decidable.not_not, Int.not_lt, Int.not_le, Nat.not_lt, Nat.not_le, strB_nil, strB_nil', strB_nnil, strB_nnil'] at h4
      refine run_skip ?_
      exact run_end [] .nil rfl ⟨rfl, trivial⟩ rfl

/-! ### spec_l19Times -/
theorem c_spec_l19Times (m_ : gMine) (arrivals : List Int) (blocked : Int) (c_ : gCrew) (start : Int) (hp1 : MineIn m_) (hp2 : (arrivals.length : Int) = m_.Junctions) (hp3 : CrewIn m_ c_) (hp4 : 0 ≤ start ∧ start ≤ 36000) : Con Try.prog 31 [.rp [.int .i64 m_.Junctions, .sl 7 (m_.Airways.map gAirway.v)], .sl 1 (arrivals.map (V.int .i64)), .int .i64 blocked, .rp [.str c_.Id, .int .i64 c_.Junction, .int .i64 c_.Speed], .int .i64 start] [] (.os 100 (m_spec_l19Times m_ arrivals blocked c_ start).length) ([(100, some (.row 2 1 ((m_spec_l19Times m_ arrivals blocked c_ start).map (V.int .i64))))]) := by
  refine con_intro (out := fun r : (List Int) => ((.os 100 r.length : V), ([(100, some (.row 2 1 (r.map (V.int .i64))))] : List (Nat × Option O)))) (r := (m_spec_l19Times m_ arrivals blocked c_ start)) Try.func31 rfl Try.ntmps31 rfl ?_
  have hC1 := hp3.1
  have hC2 := hp3.2
  have hJ1 := hp1.1
  have hA1 := hp1.2.1
  refine run_factP (t := 0) 1 rfl rfl fun hl => ?_
  have l1 := hl; clear hl; simp only [List.length_map] at l1
  refine run_fact (t := 1) rfl fun hl => ?_
  have l2 := hl; clear hl; simp only [List.length_map] at l2
  refine run_seq ?_
  refine run_region (q_assign .n (.c rfl) rfl <| Lex.nil) ?_
  refine run_seq ?_
  refine run_region (q_bslicem ([] : List Int) (f := V.int .i64) (l := 200) .n rfl rfl .nil rfl si_25 zv_2 rfl rfl rfl <| q_assign .n (.t rfl) rfl <| Lex.nil) ?_
  refine run_seq ?_
  refine run_seq ?_
  refine run_region (q_assign .n (.c rfl) rfl <| Lex.nil) ?_
  refine run_block ?_
  refine run_LOOP (m_spec_l19Times_b1 m_ arrivals blocked c_ start) _ _ _ rfl (fun (x1 : (List Int) × Int) => 0 ≤ x1.2 ∧ x1.2 ≤ m_.Junctions ∧ (x1.1.length : Int) + 0 ≤ x1.2 + (([] : List Int).length : Int) ∧ (x1.1.length : Int) = x1.2) (fun x1 => 0 ≤ x1.2 ∧ x1.2 ≤ m_.Junctions ∧ (x1.1.length : Int) + 0 ≤ x1.2 + (([] : List Int).length : Int) ∧ (x1.1.length : Int) = x1.2 ∧ m_.Junctions ≤ x1.2) (fun x1 => (m_.Junctions - x1.2 : Int).toNat) (fun x1 => ⟨[(0, some (true, .rp [.int .i64 m_.Junctions, .sl 7 (m_.Airways.map gAirway.v)])), (1, some (true, .sl 1 (arrivals.map (V.int .i64)))), (2, some (true, .int .i64 blocked)), (3, some (true, .rp [.str c_.Id, .int .i64 c_.Junction, .int .i64 c_.Speed])), (4, some (true, .int .i64 start)), (11, some (true, .os 200 x1.1.length)), (12, some (true, .int .i64 x1.2))], [(200, some (.row 2 1 (x1.1.map (V.int .i64))))]⟩) (fun x1 => ⟨[(0, some (true, .rp [.int .i64 m_.Junctions, .sl 7 (m_.Airways.map gAirway.v)])), (1, some (true, .sl 1 (arrivals.map (V.int .i64)))), (2, some (true, .int .i64 blocked)), (3, some (true, .rp [.str c_.Id, .int .i64 c_.Junction, .int .i64 c_.Speed])), (4, some (true, .int .i64 start)), (11, some (true, .os 200 x1.1.length))], [(200, some (.row 2 1 (x1.1.map (V.int .i64))))]⟩) ⟨by omega, by omega, by (simp only [List.length_append, List.length_cons, List.length_nil, List.length_replicate, put_len] at * <;> omega), by (simp only [List.length_append, List.length_cons, List.length_nil, List.length_replicate, put_len] at * <;> omega)⟩ (by omega) (sub_of [] ⟨rfl, rfl, rfl, rfl, rfl, rfl, rfl, trivial⟩ ⟨rfl, trivial⟩ rfl) ?_ ?_
  · intro x1 i6
    obtain ⟨e31, e32, e33, e34, e35⟩ := i6
    try dsimp only at *
    refine run_seq ?_
    refine run_seq ?_
    refine run_region (q_move .n (.t rfl) rfl <| q_move .n (.t rfl) rfl <| q_nilc_ro .n (.t rfl) rfl <| q_fld_ro .n (.t rfl) fo_71_1 rfl <| q_ld1_ro .n (.t rfl) rfl ic_2 rfl <| q_move .n (.t rfl) rfl <| q_call0 (full := false) .n .f en_51 (.cons (.t rfl) (.cons (.t rfl) (.cons (.t rfl) .nil))) (.cons (.b (.a (.same rfl))) (.cons (.b (.a (.same rfl))) (.cons (.b (.a (.same rfl))) .nil))) (fun hg => c_spec_l19Safe arrivals c_.Junction start (by omega)) rfl (fun h => Bool.noConfusion h) rfl <| q_not .n (.t rfl) rfl <| Lex.nil) ?_
    refine run_cond (.t rfl) rfl (fun h7 => ?_) (fun h7 => ?_)
    · try simp only [Bool.and_eq_true, Bool.or_eq_true, Bool.not_eq_true', Bool.and_eq_false_iff, Bool.or_eq_false_iff, Bool.not_eq_false', decide_eq_true_eq, decide_eq_false_iff_not, beq_iff_eq, bne_iff_ne, beq_eq_false_iff_ne, bne_eq_false_iff_eq, Bool.true_and, ne_eq, Decidable.not_not, Int.not_lt, Int.not_le, Nat.not_lt, Nat.not_le, strB_nil, strB_nil', strB_nnil, strB_nnil'] at h7
      refine run_seq ?_
      refine run_region (q_move .n (.t rfl) rfl <| q_assign .n (.t rfl) rfl <| Lex.nil) ?_
      exact run_ret [(100, 200)] (.cons (.t rfl rfl) .nil) (by first | rfl | (simp only [put_len]; rfl)) ⟨rfl, trivial⟩ rfl
    · try simp only [Bool.and_eq_true, Bool.or_eq_true, Bool.not_eq_true', Bool.and_eq_false_iff, Bool.or_eq_false_iff, Bool.not_eq_false', decide_eq_true_eq, decide_eq_false_iff_not, beq_iff_eq, bne_iff_ne, beq_eq_false_iff_ne, bne_eq_false_iff_eq, Bool.true_and, ne_eq, Decidable.not_not, Int.not_lt, Int.not_le, Nat.not_lt, Nat.not_le, strB_nil, strB_nil', strB_nnil, strB_nnil'] at h7
      refine run_skip ?_
      refine run_seq ?_
      refine run_region (q_move .n (.t rfl) rfl <| q_move .n (.t rfl) rfl <| q_nilc_ro .n (.t rfl) rfl <| q_fld_ro .n (.t rfl) fo_71_1 rfl <| q_ld1_ro .n (.t rfl) rfl ic_2 rfl <| q_move .n (.t rfl) rfl <| q_idx_ow .n (.t rfl) (.t rfl) sl_25 (fun _ => by omega) rfl <| q_st_rowm start .n rfl (.t rfl) (.t rfl) rfl ts_2 (by omega) rfl rfl <| Lex.nil) ?_
      refine run_seq ?_
      refine run_seq ?_
      refine run_region (q_assign .n (.c rfl) rfl <| Lex.nil) ?_
      refine run_block ?_
      refine run_LOOP (m_spec_l19Times_b2 m_ arrivals blocked c_ start x1) _ _ _ rfl (fun (x2 : (List Int) × Int) => 0 ≤ x2.2 ∧ x2.2 ≤ m_.Junctions ∧ (x2.1.length : Int) = m_.Junctions) (fun x2 => 0 ≤ x2.2 ∧ x2.2 ≤ m_.Junctions ∧ (x2.1.length : Int) = m_.Junctions ∧ m_.Junctions ≤ x2.2) (fun x2 => (m_.Junctions - x2.2 : Int).toNat) (fun x2 => ⟨[(0, some (true, .rp [.int .i64 m_.Junctions, .sl 7 (m_.Airways.map gAirway.v)])), (1, some (true, .sl 1 (arrivals.map (V.int .i64)))), (2, some (true, .int .i64 blocked)), (3, some (true, .rp [.str c_.Id, .int .i64 c_.Junction, .int .i64 c_.Speed])), (11, some (true, .os 200 x2.1.length)), (13, some (true, .int .i64 x2.2))], [(200, some (.row 2 1 (x2.1.map (V.int .i64))))]⟩) (fun x2 => ⟨[(11, some (true, .os 200 x2.1.length))], [(200, some (.row 2 1 (x2.1.map (V.int .i64))))]⟩) ⟨by omega, by omega, by (simp only [List.length_append, List.length_cons, List.length_nil, List.length_replicate, put_len] at * <;> omega)⟩ (by omega) (sub_of [] ⟨rfl, rfl, rfl, rfl, os_len rfl (by first | (simp only [put_len]; done) | (first | omega | assumption | (simp only [List.length_append, List.length_cons, List.length_nil, List.length_replicate, put_len] at * <;> omega) | (((simp only [go_len, put_len] at * <;> omega)); done) | (((have hw0 := hp1.at (i := x3.1) (by omega); unfold AirIn at hw0; (try simp only [go_len] at *); omega)); done))), rfl, trivial⟩ ⟨rfl, trivial⟩ rfl) ?_ ?_
      · intro x2 i23
        obtain ⟨e24, e25, e26, e27⟩ := i23
        try dsimp only at *
        refine run_seq ?_
        refine run_region (q_move .n (.t rfl) rfl <| q_assign .n (.t rfl) rfl <| Lex.nil) ?_
        exact run_ret [(100, 200)] (.cons (.t rfl rfl) .nil) (by first | rfl | (simp only [put_len]; rfl)) ⟨rfl, trivial⟩ rfl
      · intro rec2 k2 hk8 x2 i9
        obtain ⟨e28, e29, e30⟩ := i9
        try dsimp only at *
        refine run_seq ?_
        refine run_seq ?_
        refine run_region (q_move .n (.t rfl) rfl <| q_move .n (.t rfl) rfl <| q_nilc_ro .n (.t rfl) rfl <| q_fld_ro .n (.t rfl) fo_35_0 rfl <| q_ld1_ro .n (.t rfl) rfl ic_2 rfl <| q_int .n (.t rfl) (.t rfl) rfl rfl <| Lex.nil) ?_
        refine run_cond (.t rfl) rfl (fun h10 => ?_) (fun h10 => ?_)
        · try simp only [Bool.and_eq_true, Bool.or_eq_true, Bool.not_eq_true', Bool.and_eq_false_iff, Bool.or_eq_false_iff, Bool.not_eq_false', decide_eq_true_eq, decide_eq_false_iff_not, beq_iff_eq, bne_iff_ne, beq_eq_false_iff_ne, bne_eq_false_iff_eq, Bool.true_and, ne_eq, Decidable.not_not, Int.not_lt, Int.not_le, Nat.not_lt, Nat.not_le, strB_nil, strB_nil', strB_nnil, strB_nnil'] at h10
          refine run_skip ?_
          refine run_seq ?_
          refine run_block ?_
          refine run_seq ?_
          refine run_region (q_assign .n (.c rfl) rfl <| Lex.nil) ?_
          refine run_block ?_
          refine run_LOOP (m_spec_l19Times_b3 m_ arrivals blocked c_ start x1 rec2 k2 x2) _ _ _ rfl (fun (x3 : Int × (List Int)) => 0 ≤ x3.1 ∧ x3.1 ≤ (m_.Airways.length : Int) ∧ (x3.2.length : Int) = m_.Junctions) (fun x3 => 0 ≤ x3.1 ∧ x3.1 ≤ (m_.Airways.length : Int) ∧ (x3.2.length : Int) = m_.Junctions ∧ (m_.Airways.length : Int) ≤ x3.1) (fun x3 => ((m_.Airways.length : Int) - x3.1 : Int).toNat) (fun x3 => ⟨[(0, some (true, .rp [.int .i64 m_.Junctions, .sl 7 (m_.Airways.map gAirway.v)])), (1, some (true, .sl 1 (arrivals.map (V.int .i64)))), (2, some (true, .int .i64 blocked)), (3, some (true, .rp [.str c_.Id, .int .i64 c_.Junction, .int .i64 c_.Speed])), (11, some (true, .os 200 x3.2.length)), (13, some (true, .int .i64 x2.2)), (14, some (true, .int .i64 x3.1))], [(200, some (.row 2 1 (x3.2.map (V.int .i64))))]⟩) (fun x3 => ⟨[(0, some (true, .rp [.int .i64 m_.Junctions, .sl 7 (m_.Airways.map gAirway.v)])), (1, some (true, .sl 1 (arrivals.map (V.int .i64)))), (2, some (true, .int .i64 blocked)), (3, some (true, .rp [.str c_.Id, .int .i64 c_.Junction, .int .i64 c_.Speed])), (11, some (true, .os 200 x3.2.length)), (13, some (true, .int .i64 x2.2))], [(200, some (.row 2 1 (x3.2.map (V.int .i64))))]⟩) ⟨by omega, by omega, by omega⟩ (by omega) (sub_of [] ⟨rfl, rfl, rfl, rfl, rfl, rfl, rfl, trivial⟩ ⟨rfl, trivial⟩ rfl) ?_ ?_
          · intro x3 i15
            obtain ⟨e16, e17, e18, e19⟩ := i15
            try dsimp only at *
            refine run_endB ?_
            refine run_region (q_move .n (.t rfl) rfl <| q_add .n (.t rfl) (.c rfl) (fun _ => by omega) rfl <| q_assign .n (.t rfl) rfl <| Lex.nil) ?_
            exact run_again (x3.2, x2.2 + 1) ⟨by omega, by omega, by omega⟩ (by omega) (sub_of [] ⟨rfl, rfl, rfl, rfl, rfl, rfl, trivial⟩ ⟨rfl, trivial⟩ rfl)
          · intro rec3 k3 hk11 x3 i12
            obtain ⟨e20, e21, e22⟩ := i12
            try dsimp only at *
            refine run_seq ?_
            refine run_seq ?_
            refine run_region (q_move .n (.t rfl) rfl <| q_move .n (.t rfl) rfl <| q_nilc_ro .n (.t rfl) rfl <| q_fld_ro .n (.t rfl) fo_35_1 rfl <| q_ld1_ro .n (.t rfl) rfl ic_33 rfl <| q_len .n (.t rfl) rfl len_map ss_33 rfl <| q_int .n (.t rfl) (.t rfl) rfl rfl <| Lex.nil) ?_
            refine run_cond (.t rfl) rfl (fun h13 => ?_) (fun h13 => ?_)
            · try simp only [Bool.and_eq_true, Bool.or_eq_true, Bool.not_eq_true', Bool.and_eq_false_iff, Bool.or_eq_false_iff, Bool.not_eq_false', decide_eq_true_eq, decide_eq_false_iff_not, beq_iff_eq, bne_iff_ne, beq_eq_false_iff_ne, bne_eq_false_iff_eq, Bool.true_and, ne_eq, Decidable.not_not, Int.not_lt, Int.not_le, Nat.not_lt, Nat.not_le, strB_nil, strB_nil', strB_nnil, strB_nnil'] at h13
              refine run_skip ?_
              refine run_seq ?_
              refine run_block ?_
              refine run_seq ?_
              refine run_seq ?_
              refine run_region (q_move .n (.t rfl) rfl <| q_move .n (.t rfl) rfl <| q_int .n (.t rfl) (.t rfl) rfl rfl <| Lex.nil) ?_
              refine run_cond (.t rfl) rfl (fun h14 => ?_) (fun h14 => ?_)
              · try simp only [Bool.and_eq_true, Bool.or_eq_true, Bool.not_eq_true', Bool.and_eq_false_iff, Bool.or_eq_false_iff, Bool.not_eq_false', decide_eq_true_eq, decide_eq_false_iff_not, beq_iff_eq, bne_iff_ne, beq_eq_false_iff_ne, bne_eq_false_iff_eq, Bool.true_and, ne_eq, Decidable.not_not, Int.not_lt, Int.not_le, Nat.not_lt, Nat.not_le, strB_nil, strB_nil', strB_nnil, strB_nnil'] at h14
                refine run_exit rfl ?_
                refine run_region (q_move .n (.t rfl) rfl <| q_add .n (.t rfl) (.c rfl) (fun _ => by omega) rfl <| q_assign .n (.t rfl) rfl <| Lex.nil) ?_
                exact run_again (x3.1 + 1, x3.2) ⟨by omega, by omega, by omega⟩ (by omega) (sub_of [] ⟨rfl, rfl, rfl, rfl, rfl, rfl, rfl, trivial⟩ ⟨rfl, trivial⟩ rfl)
              · try simp only [Bool.and_eq_true, Bool.or_eq_true, Bool.not_eq_true', Bool.and_eq_false_iff, Bool.or_eq_false_iff, Bool.not_eq_false', decide_eq_true_eq, decide_eq_false_iff_not, beq_iff_eq, bne_iff_ne, beq_eq_false_iff_ne, bne_eq_false_iff_eq, Bool.true_and, ne_eq, Decidable.not_not, Int.not_lt, Int.not_le, Nat.not_lt, Nat.not_le, strB_nil, strB_nil', strB_nnil, strB_nnil'] at h14
                refine run_skip ?_
                refine run_seq ?_
                refine run_region (q_move .n (.t rfl) rfl <| q_nilc_ro .n (.t rfl) rfl <| q_fld_ro .n (.t rfl) fo_35_1 rfl <| q_ld1_ro .n (.t rfl) rfl ic_33 rfl <| q_move .n (.t rfl) rfl <| q_idx_rm .n (.t rfl) (.t rfl) sl_33 (fun _ => by omega) rfl <| q_assign .n (.t rfl) rfl <| Lex.nil) ?_
                refine run_seq ?_
                refine run_region (q_move .n (.t rfl) rfl <| q_move .n (.t rfl) rfl <| q_nilc_ro .n (.t rfl) rfl <| q_fld_ro .n (.t rfl) fo_71_2 rfl <| q_ld1_ro .n (.t rfl) rfl ic_2 rfl <| q_call0 (full := false) .n .f en_52 (.cons (.t rfl) (.cons (.t rfl) .nil)) (.cons (.b (.a (.same rfl))) (.cons (.b (.a (.same rfl))) .nil)) (fun hg => c_spec_l19Walk (at' m_.Airways x3.1) c_.Speed (by omega)) rfl (fun h => Bool.noConfusion h) rfl <| q_assign .n (.t rfl) rfl <| Lex.nil) ?_
                refine run_seq ?_
                refine run_draw fmo (q_move .n (.t rfl) rfl <| q_move .n (.t rfl) rfl <| q_move .n (.t rfl) rfl <| q_nilc_ro .n (.t rfl) rfl <| q_fld_ro .n (.t rfl) fo_99_1 rfl <| q_ld1_ro .n (.t rfl) rfl ic_2 rfl <| q_move .n (.t rfl) rfl <| q_nilc_ro .n (.t rfl) rfl <| q_fld_ro .n (.t rfl) fo_99_2 rfl <| q_ld1_ro .n (.t rfl) rfl ic_2 rfl <| q_move .n (.t rfl) rfl <| q_callM (full := false) [(1, 200)] [] .n rfl .f en_53 (.cons (.t rfl) (.cons (.t rfl) (.cons (.t rfl) (.cons (.t rfl) (.cons (.t rfl) .nil))))) (.cons (.b (.a (.same rfl))) (.cons (.b (muts_len rfl (by first | rfl | exact go_len _ _ _ _ _))) (.cons (.b (.a (.same rfl))) (.cons (.b (.a (.same rfl))) (.cons (.b (.a (.same rfl))) .nil))))) (c_spec_l19Go arrivals x3.2 (at' m_.Airways x3.1).From (at' m_.Airways x3.1).To (m_spec_l19Walk (at' m_.Airways x3.1) c_.Speed) (by ((have hw0 := hp1.at (i := x3.1) (by omega); unfold AirIn at hw0; (try simp only [go_len] at *); omega))) (by ((have hw0 := hp1.at (i := x3.1) (by omega); unfold AirIn at hw0; (try simp only [go_len] at *); omega))) (by omega)) ⟨rfl, trivial⟩ rfl rfl (fun h => Bool.noConfusion h) (fun h => Bool.noConfusion h) rfl <| Lex.nil) (by kernel_rfl) ?_
                refine run_draw fmo (q_move .n (.t rfl) rfl <| q_move .n (.t rfl) rfl <| q_move .n (.t rfl) rfl <| q_nilc_ro .n (.t rfl) rfl <| q_fld_ro .n (.t rfl) fo_99_2 rfl <| q_ld1_ro .n (.t rfl) rfl ic_2 rfl <| q_move .n (.t rfl) rfl <| q_nilc_ro .n (.t rfl) rfl <| q_fld_ro .n (.t rfl) fo_99_1 rfl <| q_ld1_ro .n (.t rfl) rfl ic_2 rfl <| q_move .n (.t rfl) rfl <| q_callM (full := false) [(1, 200)] [] .n rfl .f en_53 (.cons (.t rfl) (.cons (.t rfl) (.cons (.t rfl) (.cons (.t rfl) (.cons (.t rfl) .nil))))) (.cons (.b (.a (.same rfl))) (.cons (.b (muts_len rfl (by first | rfl | exact go_len _ _ _ _ _))) (.cons (.b (.a (.same rfl))) (.cons (.b (.a (.same rfl))) (.cons (.b (.a (.same rfl))) .nil))))) (c_spec_l19Go arrivals (m_spec_l19Go arrivals x3.2 (at' m_.Airways x3.1).From (at' m_.Airways x3.1).To (m_spec_l19Walk (at' m_.Airways x3.1) c_.Speed)) (at' m_.Airways x3.1).To (at' m_.Airways x3.1).From (m_spec_l19Walk (at' m_.Airways x3.1) c_.Speed) (by ((have hw0 := hp1.at (i := x3.1) (by omega); unfold AirIn at hw0; (try simp only [go_len] at *); omega))) (by ((have hw0 := hp1.at (i := x3.1) (by omega); unfold AirIn at hw0; (try simp only [go_len] at *); omega))) (by ((simp only [go_len, put_len] at * <;> omega)))) ⟨rfl, trivial⟩ rfl rfl (fun h => Bool.noConfusion h) (fun h => Bool.noConfusion h) rfl <| Lex.nil) (by kernel_rfl) ?_
                refine run_endB ?_
                refine run_region (q_move .n (.t rfl) rfl <| q_add .n (.t rfl) (.c rfl) (fun _ => by omega) rfl <| q_assign .n (.t rfl) rfl <| Lex.nil) ?_
                exact run_again (x3.1 + 1, m_spec_l19Go arrivals (m_spec_l19Go arrivals x3.2 (at' m_.Airways x3.1).From (at' m_.Airways x3.1).To (m_spec_l19Walk (at' m_.Airways x3.1) c_.Speed)) (at' m_.Airways x3.1).To (at' m_.Airways x3.1).From (m_spec_l19Walk (at' m_.Airways x3.1) c_.Speed)) ⟨by omega, by omega, by ((simp only [go_len, put_len] at * <;> omega))⟩ (by omega) (sub_of [] ⟨rfl, rfl, rfl, rfl, os_len rfl (by first | (simp only [put_len]; done) | (((simp only [go_len, put_len] at * <;> omega)))), rfl, rfl, trivial⟩ ⟨rfl, trivial⟩ rfl)
            · try simp only [Bool.and_eq_true, Bool.or_eq_true, Bool.not_eq_true', Bool.and_eq_false_iff, Bool.or_eq_false_iff, Bool.not_eq_false', decide_eq_true_eq, decide_eq_false_iff_not, beq_iff_eq, bne_iff_ne, beq_eq_false_iff_ne, bne_eq_false_iff_eq, Bool.true_and, ne_eq, Decidable.not_not, Int.not_lt, Int.not_le, Nat.not_lt, Nat.not_le, strB_nil, strB_nil', strB_nnil, strB_nnil'] at h13
              refine run_exit rfl ?_
              exact run_cont hk11 (x3.1, x3.2) ⟨by omega, by omega, by omega, by omega⟩ (sub_of [] ⟨rfl, rfl, rfl, rfl, rfl, rfl, trivial⟩ ⟨rfl, trivial⟩ rfl)
        · try simp only [Bool.and_eq_true, Bool.or_eq_true, Bool.not_eq_true', Bool.and_eq_false_iff, Bool.or_eq_false_iff, Bool.not_eq_false', decide_eq_true_eq, decide_eq_false_iff_not, beq_iff_eq, bne_iff_ne, beq_eq_false_iff_ne, bne_eq_false_iff_eq, Bool.true_and, ne_eq, Decidable.not_not, Int.not_lt, Int.not_le, Nat.not_lt, Nat.not_le, strB_nil, strB_nil', strB_nnil, strB_nnil'] at h10
          refine run_exit rfl ?_
          exact run_cont hk8 (x2.1, x2.2) ⟨by omega, by omega, by omega, by omega⟩ (sub_of [] ⟨rfl, trivial⟩ ⟨rfl, trivial⟩ rfl)
  · intro rec1 k1 hk3 x1 i4
    obtain ⟨e36, e37, e38, e39⟩ := i4
    try dsimp only at *
    refine run_seq ?_
    refine run_seq ?_
    refine run_region (q_move .n (.t rfl) rfl <| q_move .n (.t rfl) rfl <| q_nilc_ro .n (.t rfl) rfl <| q_fld_ro .n (.t rfl) fo_35_0 rfl <| q_ld1_ro .n (.t rfl) rfl ic_2 rfl <| q_int .n (.t rfl) (.t rfl) rfl rfl <| Lex.nil) ?_
    refine run_cond (.t rfl) rfl (fun h5 => ?_) (fun h5 => ?_)
    · try simp only [Bool.and_eq_true, Bool.or_eq_true, Bool.not_eq_true', Bool.and_eq_false_iff, Bool.or_eq_false_iff, Bool.not_eq_false', decide_eq_true_eq, decide_eq_false_iff_not, beq_iff_eq, bne_iff_ne, beq_eq_false_iff_ne, bne_eq_false_iff_eq, Bool.true_and, ne_eq, Decidable.not_not, Int.not_lt, Int.not_le, Nat.not_lt, Nat.not_le, strB_nil, strB_nil', strB_nnil, strB_nnil'] at h5
      refine run_skip ?_
      refine run_seq ?_
      refine run_block ?_
      refine run_region (q_move .n (.t rfl) rfl <| q_bslicem ([(-1)] : List Int) (f := V.int .i64) (l := 201) .n rfl rfl (.cons (.c rfl) .nil) rfl si_25 zv_2 rfl rfl rfl <| q_appm (xs := x1.1) (ys := ([(-1)] : List Int)) (f := V.int .i64) (l := 202) .n rfl (.ow (.t rfl) rfl (take_all (by simp only [len_map, put_len] <;> rfl)) (by simp only [len_map, put_len] <;> rfl)) (.ow (.t rfl) rfl (take_all (by simp only [len_map, put_len] <;> rfl)) (by simp only [len_map, put_len] <;> rfl)) si_25 zv_2 rfl (by (simp only [List.length_append, List.length_cons, List.length_nil, List.length_replicate, put_len] at * <;> omega)) rfl rfl <| q_assign .n (.t rfl) rfl <| Lex.nil) ?_
      refine run_endB ?_
      refine run_region (q_move .n (.t rfl) rfl <| q_add .n (.t rfl) (.c rfl) (fun _ => by omega) rfl <| q_assign .n (.t rfl) rfl <| Lex.nil) ?_
      exact run_again (x1.1 ++ ([(-1)] : List Int), x1.2 + 1) ⟨by omega, by omega, by (simp only [List.length_append, List.length_cons, List.length_nil, List.length_replicate, put_len] at * <;> omega), by (simp only [List.length_append, List.length_cons, List.length_nil, List.length_replicate, put_len] at * <;> omega)⟩ (by omega) (sub_of [(200, 202)] ⟨rfl, rfl, rfl, rfl, rfl, rfl, rfl, trivial⟩ ⟨rfl, trivial⟩ rfl)
    · try simp only [Bool.and_eq_true, Bool.or_eq_true, Bool.not_eq_true', Bool.and_eq_false_iff, Bool.or_eq_false_iff, Bool.not_eq_false', decide_eq_true_eq, decide_eq_false_iff_not, beq_iff_eq, bne_iff_ne, beq_eq_false_iff_ne, bne_eq_false_iff_eq, Bool.true_and, ne_eq, Decidable.not_not, Int.not_lt, Int.not_le, Nat.not_lt, Nat.not_le, strB_nil, strB_nil', strB_nnil, strB_nnil'] at h5
      refine run_exit rfl ?_
      exact run_cont hk3 (x1.1, x1.2) ⟨by omega, by omega, by omega, by omega, by omega⟩ (sub_of [] ⟨rfl, rfl, rfl, rfl, rfl, rfl, trivial⟩ ⟨rfl, trivial⟩ rfl)

/-! ### spec_l00Own -/
theorem c_spec_l00Own (list : List Int) (hp1 : list.length ≤ 1000000) : Con Try.prog 54 [.sl 1 (list.map (V.int .i64))] [] (.os 100 (m_spec_l00Own list).length) ([(100, some (.row 2 1 ((m_spec_l00Own list).map (V.int .i64))))]) := by
  refine con_intro (out := fun r : (List Int) => ((.os 100 r.length : V), ([(100, some (.row 2 1 (r.map (V.int .i64))))] : List (Nat × Option O)))) (r := (m_spec_l00Own list)) Try.func54 rfl Try.ntmps54 rfl ?_
  refine run_fact (t := 0) rfl fun hl => ?_
  have l1 := hl; clear hl; simp only [List.length_map] at l1
  refine run_seq ?_
  refine run_region (q_assign .n (.c rfl) rfl <| Lex.nil) ?_
  refine run_seq ?_
  refine run_region (q_bslicem ([] : List Int) (f := V.int .i64) (l := 200) .n rfl rfl .nil rfl si_25 zv_2 rfl rfl rfl <| q_move .n (.t rfl) rfl <| q_appm (xs := ([] : List Int)) (ys := list) (f := V.int .i64) (l := 201) .n rfl (.ow (.t rfl) rfl (take_all (by simp only [len_map, put_len] <;> rfl)) (by simp only [len_map, put_len] <;> rfl)) (.ro (.t rfl)) si_25 zv_2 rfl (by (simp only [List.length_append, List.length_cons, List.length_nil, List.length_replicate, put_len] at * <;> omega)) rfl rfl <| q_assign .n (.t rfl) rfl <| Lex.nil) ?_
  exact run_ret [(100, 201)] (.cons (.t rfl rfl) .nil) (by first | rfl | (simp only [put_len]; rfl)) ⟨rfl, trivial⟩ rfl

/-! ### spec_l20Search_node -/
theorem c_spec_l20Search_node (x_ : gl20Search) (bound : Int) (hp1 : 0 ≤ x_.nodes ∧ x_.nodes ≤ x_.budget ∧ x_.budget ≤ 20000) : Con Try.prog 55 [.op 0 0 0 0, .int .i64 bound] [(0, some (.box 68 [.sl 1 (x_.sizes.map (V.int .i64)), .os 11 x_.reach.length, .os 12 x_.left.length, .os 13 x_.rest.length, .os 14 x_.places.length, .os 15 x_.best.length, .int .i64 x_.most, .int .i64 x_.nodes, .int .i64 x_.budget, .bool x_.full])), (11, some (.row 25 1 (x_.reach.map (slv 1 (V.int .i64))))), (12, some (.row 2 1 (x_.left.map (V.int .i64)))), (13, some (.row 2 1 (x_.rest.map (V.int .i64)))), (14, some (.row 2 1 (x_.places.map (V.int .i64)))), (15, some (.row 2 1 (x_.best.map (V.int .i64))))] (.bool (m_spec_l20Search_node x_ bound).1) ([(11, some (.row 25 1 (x_.reach.map (slv 1 (V.int .i64))))), (12, some (.row 2 1 (x_.left.map (V.int .i64)))), (13, some (.row 2 1 (x_.rest.map (V.int .i64)))), (14, some (.row 2 1 (x_.places.map (V.int .i64)))), (15, some (.row 2 1 (x_.best.map (V.int .i64)))), (0, some (.box 68 [.sl 1 (x_.sizes.map (V.int .i64)), .os 11 x_.reach.length, .os 12 x_.left.length, .os 13 x_.rest.length, .os 14 x_.places.length, .os 15 x_.best.length, .int .i64 x_.most, .int .i64 (m_spec_l20Search_node x_ bound).2.nodes, .int .i64 x_.budget, .bool (m_spec_l20Search_node x_ bound).2.full]))]) := by
  refine con_intro (out := fun r : Bool × gl20Search => ((.bool r.1 : V), ([(11, some (.row 25 1 (x_.reach.map (slv 1 (V.int .i64))))), (12, some (.row 2 1 (x_.left.map (V.int .i64)))), (13, some (.row 2 1 (x_.rest.map (V.int .i64)))), (14, some (.row 2 1 (x_.places.map (V.int .i64)))), (15, some (.row 2 1 (x_.best.map (V.int .i64)))), (0, some (.box 68 [.sl 1 (x_.sizes.map (V.int .i64)), .os 11 x_.reach.length, .os 12 x_.left.length, .os 13 x_.rest.length, .os 14 x_.places.length, .os 15 x_.best.length, .int .i64 x_.most, .int .i64 r.2.nodes, .int .i64 x_.budget, .bool r.2.full]))] : List (Nat × Option O)))) (r := (m_spec_l20Search_node x_ bound)) Try.func55 rfl Try.ntmps55 rfl ?_
  refine run_factH (l := 11) rfl fun hl => ?_
  have l1 := hl; clear hl; simp only [List.length_map] at l1
  refine run_factH (l := 12) rfl fun hl => ?_
  have l2 := hl; clear hl; simp only [List.length_map] at l2
  refine run_factH (l := 13) rfl fun hl => ?_
  have l3 := hl; clear hl; simp only [List.length_map] at l3
  refine run_factH (l := 14) rfl fun hl => ?_
  have l4 := hl; clear hl; simp only [List.length_map] at l4
  refine run_factH (l := 15) rfl fun hl => ?_
  have l5 := hl; clear hl; simp only [List.length_map] at l5
  refine run_seq ?_
  refine run_region (q_assign .n (.c rfl) rfl <| Lex.nil) ?_
  refine run_seq ?_
  refine run_seq ?_
  refine run_region (q_move .n (.t rfl) rfl <| q_move .n (.t rfl) rfl <| q_nilc_ow .n (.t rfl) rfl <| q_fld_ow .n (.t rfl) fo_68_6 rfl <| q_ld1_ow .n (.t rfl) rfl (.inr rfl) (fun _ => rfl) rfl ic_2 rfl <| q_int .n (.t rfl) (.t rfl) rfl rfl <| Lex.nil) ?_
  refine run_cond (.t rfl) rfl (fun h6 => ?_) (fun h6 => ?_)
  · try simp only [Bool.and_eq_true, Bool.or_eq_true, Bool.not_eq_true', Bool.and_eq_false_iff, Bool.or_eq_false_iff, Bool.not_eq_false', decide_eq_true_eq, decide_eq_false_iff_not, beq_iff_eq, bne_iff_ne, beq_eq_false_iff_ne, bne_eq_false_iff_eq, Bool.true_and, ne_eq, Decidable.not_not, Int.not_lt, Int.not_le, Nat.not_lt, Nat.not_le, strB_nil, strB_nil', strB_nnil, strB_nnil'] at h6
    refine run_seq ?_
    refine run_region (q_assign .n (.c rfl) rfl <| Lex.nil) ?_
    exact run_ret [] (.cons (.t rfl rfl) .nil) rfl ⟨rfl, rfl, rfl, rfl, rfl, rfl, trivial⟩ rfl
  · try simp only [Bool.and_eq_true, Bool.or_eq_true, Bool.not_eq_true', Bool.and_eq_false_iff, Bool.or_eq_false_iff, Bool.not_eq_false', decide_eq_true_eq, decide_eq_false_iff_not, beq_iff_eq, bne_iff_ne, beq_eq_false_iff_ne, bne_eq_false_iff_eq, Bool.true_and, ne_eq, Decidable.not_not, Int.not_lt, Int.not_le, Nat.not_lt, Nat.not_le, strB_nil, strB_nil', strB_nnil, strB_nnil'] at h6
    refine run_skip ?_
    refine run_seq ?_
    refine run_seq ?_
    refine run_draw fmo (q_move .n (.t rfl) rfl <| q_nilc_ow .n (.t rfl) rfl <| q_fld_ow .n (.t rfl) fo_68_7 rfl <| q_ld1_ow .n (.t rfl) rfl (.inr rfl) (fun _ => rfl) rfl ic_2 rfl <| q_move .n (.t rfl) rfl <| q_nilc_ow .n (.t rfl) rfl <| q_fld_ow .n (.t rfl) fo_68_8 rfl <| q_ld1_ow .n (.t rfl) rfl (.inr rfl) (fun _ => rfl) rfl ic_2 rfl <| q_int .n (.t rfl) (.t rfl) rfl rfl <| Lex.nil) (by kernel_rfl) ?_
    refine run_join _ _ rfl (fun v7 : Bool => True) (fun v7 => ⟨[(0, some (true, .op 0 0 0 0))], [(0, some (.box 68 [.sl 1 (x_.sizes.map (V.int .i64)), .os 11 x_.reach.length, .os 12 x_.left.length, .os 13 x_.rest.length, .os 14 x_.places.length, .os 15 x_.best.length, .int .i64 x_.most, .int .i64 x_.nodes, .int .i64 x_.budget, .bool v7])), (11, some (.row 25 1 (x_.reach.map (slv 1 (V.int .i64))))), (12, some (.row 2 1 (x_.left.map (V.int .i64)))), (13, some (.row 2 1 (x_.rest.map (V.int .i64)))), (14, some (.row 2 1 (x_.places.map (V.int .i64)))), (15, some (.row 2 1 (x_.best.map (V.int .i64))))]⟩) (fun v7 _ => ?_) (fun j8 hj9 => ?_)
    · refine run_seq ?_
      refine run_seq ?_
      refine run_region (q_move .n (.t rfl) rfl <| q_nilc_ow .n (.t rfl) rfl <| q_fld_ow .n (.t rfl) fo_68_9 rfl <| q_ld1_ow .n (.t rfl) rfl (.inr rfl) (fun _ => rfl) rfl ic_4 rfl <| Lex.nil) ?_
      refine run_cond (.t rfl) rfl (fun h11 => ?_) (fun h11 => ?_)
      · try simp only [Bool.and_eq_true, Bool.or_eq_true, Bool.not_eq_true', Bool.and_eq_false_iff, Bool.or_eq_false_iff, Bool.not_eq_false', decide_eq_true_eq, decide_eq_false_iff_not, beq_iff_eq, bne_iff_ne, beq_eq_false_iff_ne, bne_eq_false_iff_eq, Bool.true_and, ne_eq, Decidable.not_not, Int.not_lt, Int.not_le, Nat.not_lt, Nat.not_le, strB_nil, strB_nil', strB_nnil, strB_nnil'] at h11
        refine run_seq ?_
        refine run_region (q_assign .n (.c rfl) rfl <| Lex.nil) ?_
        exact run_ret [] (.cons (.t rfl rfl) .nil) rfl ⟨rfl, rfl, rfl, rfl, rfl, rfl, trivial⟩ rfl
      · try simp only [Bool.and_eq_true, Bool.or_eq_true, Bool.not_eq_true', Bool.and_eq_false_iff, Bool.or_eq_false_iff, Bool.not_eq_false', decide_eq_true_eq, decide_eq_false_iff_not, beq_iff_eq, bne_iff_ne, beq_eq_false_iff_ne, bne_eq_false_iff_eq, Bool.true_and, ne_eq, Decidable.not_not, Int.not_lt, Int.not_le, Nat.not_lt, Nat.not_le, strB_nil, strB_nil', strB_nnil, strB_nnil'] at h11
        refine run_skip ?_
        refine run_seq ?_
        refine run_region (q_move .n (.t rfl) rfl <| q_nilc_ow .n (.t rfl) rfl <| q_fld_ow .n (.t rfl) fo_68_7 rfl <| q_ld1_ow .n (.t rfl) rfl (.inr rfl) (fun _ => rfl) rfl ic_2 rfl <| q_int .n (.t rfl) (.c rfl) rfl rfl <| q_nilc_ow .n (.t rfl) rfl <| q_fld_ow .n (.t rfl) fo_68_7 rfl <| q_st_boxm [.sl 1 (x_.sizes.map (V.int .i64)), .os 11 x_.reach.length, .os 12 x_.left.length, .os 13 x_.rest.length, .os 14 x_.places.length, .os 15 x_.best.length, .int .i64 x_.most, .int .i64 (IntKind.wrap .i64 (x_.nodes + 1)), .int .i64 x_.budget, .bool v7] .n rfl (.t rfl) (.t rfl) rfl ts_2 rfl rfl <| Lex.nil) ?_
        refine run_seq ?_
        refine run_region (q_assign .n (.c rfl) rfl <| Lex.nil) ?_
        exact run_ret [] (.cons (.t rfl rfl) .nil) rfl ⟨rfl, rfl, rfl, rfl, rfl, rfl, trivial⟩ rfl
    · refine run_cond (.t rfl) rfl (fun h10 => ?_) (fun h10 => ?_)
      · try simp only [Bool.and_eq_true, Bool.or_eq_true, Bool.not_eq_true', Bool.and_eq_false_iff, Bool.or_eq_false_iff, Bool.not_eq_false', decide_eq_true_eq, decide_eq_false_iff_not, beq_iff_eq, bne_iff_ne, beq_eq_false_iff_ne, bne_eq_false_iff_eq, Bool.true_and, ne_eq, Decidable.not_not, Int.not_lt, Int.not_le, Nat.not_lt, Nat.not_le, strB_nil, strB_nil', strB_nnil, strB_nnil'] at h10
        refine run_region (q_move .n (.t rfl) rfl <| q_nilc_ow .n (.t rfl) rfl <| q_fld_ow .n (.t rfl) fo_68_9 rfl <| q_st_boxm [.sl 1 (x_.sizes.map (V.int .i64)), .os 11 x_.reach.length, .os 12 x_.left.length, .os 13 x_.rest.length, .os 14 x_.places.length, .os 15 x_.best.length, .int .i64 x_.most, .int .i64 x_.nodes, .int .i64 x_.budget, .bool true] .n rfl (.t rfl) (.c rfl) rfl ts_4 rfl rfl <| Lex.nil) ?_
        exact run_cont hj9 true trivial (sub_of [] ⟨rfl, trivial⟩ ⟨rfl, rfl, rfl, rfl, rfl, rfl, trivial⟩ rfl)
      · try simp only [Bool.and_eq_true, Bool.or_eq_true, Bool.not_eq_true', Bool.and_eq_false_iff, Bool.or_eq_false_iff, Bool.not_eq_false', decide_eq_true_eq, decide_eq_false_iff_not, beq_iff_eq, bne_iff_ne, beq_eq_false_iff_ne, bne_eq_false_iff_eq, Bool.true_and, ne_eq, Decidable.not_not, Int.not_lt, Int.not_le, Nat.not_lt, Nat.not_le, strB_nil, strB_nil', strB_nnil, strB_nnil'] at h10
        refine run_skip ?_
        exact run_cont hj9 x_.full trivial (sub_of [] ⟨rfl, trivial⟩ ⟨rfl, rfl, rfl, rfl, rfl, rfl, trivial⟩ rfl)


end Go.Proofs.Ytibbfdojcdkopaa
