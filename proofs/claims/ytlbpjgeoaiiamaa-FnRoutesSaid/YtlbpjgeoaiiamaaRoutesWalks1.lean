/-
  THE WALKS: each Go function computes its model. Conditions: as each theorem states them (hp1, hp2 ..).
-/
import Derived.Test.YtlbpjgeoaiiamaaRoutesPlain28
import Derived.Test.YtlbpjgeoaiiamaaProg
import Derived.Test.YtlbpjgeoaiiamaaEngP
import Derived.Test.YtlbpjgeoaiiamaaEngQ
import Derived.Test.YtlbpjgeoaiiamaaEngR
import Derived.Test.YtlbpjgeoaiiamaaEngU
set_option linter.unusedVariables false
set_option linter.unusedSimpArgs false
set_option linter.unusedSectionVars false
set_option linter.unnecessarySimpa false
namespace Go.Proofs.Ytlbpjgeoaiiamaa
open Go Go.RowKit Go.Proofs Go.Proofs.Ytlbpjgeoaiiamaa.E
theorem ss_22 : (slEl Try.prog 22).isSome = true := by kernel_rfl
theorem zv_109 : zeroV Try.prog 109 = some (.st [.nls, .int .i64 0, .int .u64 0]) := by kernel_rfl
theorem pl_109 : places Try.prog 109 = some [(0, 1), (1, 1), (2, 1)] := by kernel_rfl
theorem fo_109_1 : fldOff Try.prog 109 1 = some 1 := by kernel_rfl
theorem ic_3 : isCell Try.prog 3 = true := by kernel_rfl
theorem fo_109_0 : fldOff Try.prog 109 0 = some 0 := by kernel_rfl
theorem ic_22 : isCell Try.prog 22 = true := by kernel_rfl
theorem fmo : Try.prog.follows .mixedOrders = true := by kernel_rfl
theorem sl_22 : slEl Try.prog 22 = some (5, 1) := by kernel_rfl
theorem ic_5 : isCell Try.prog 5 = true := by kernel_rfl
theorem cv_5_3 : cvInt Try.prog 5 3 = some .i64 := by kernel_rfl
theorem ts_3 : tySz Try.prog 3 = some 1 := by kernel_rfl
theorem fo_109_2 : fldOff Try.prog 109 2 = some 2 := by kernel_rfl
theorem ic_107 : isCell Try.prog 107 = true := by kernel_rfl
theorem cv_3_107 : cvInt Try.prog 3 107 = some .u64 := by kernel_rfl
theorem ts_107 : tySz Try.prog 107 = some 1 := by kernel_rfl
theorem cv_107_2 : cvInt Try.prog 107 2 = some .i64 := by kernel_rfl
theorem en_67 : entB Try.prog 67 = true := by kernel_rfl
theorem en_30 : entB Try.prog 30 = true := by kernel_rfl
theorem zv_46 : zeroV Try.prog 46 = some (.st [.str ([] : List UInt8), .int .i64 0, .int .i64 0, .int .i64 0, .int .i64 0, .int .i64 0, .int .i64 0]) := by kernel_rfl
theorem pl_46 : places Try.prog 46 = some [(0, 1), (1, 1), (2, 1), (3, 1), (4, 1), (5, 1), (6, 1)] := by kernel_rfl
theorem ts_46 : tySz Try.prog 46 = some 7 := by kernel_rfl
theorem fo_46_4 : fldOff Try.prog 46 4 = some 4 := by kernel_rfl
theorem ts_2 : tySz Try.prog 2 = some 1 := by kernel_rfl
theorem fo_46_5 : fldOff Try.prog 46 5 = some 5 := by kernel_rfl
theorem fo_46_6 : fldOff Try.prog 46 6 = some 6 := by kernel_rfl
theorem ag_46 : aggSz Try.prog 46 = some 7 := by kernel_rfl
theorem zv_26 : zeroV Try.prog 26 = some (.st [.int .i64 0, .nls]) := by kernel_rfl
theorem si_53 : slInfo Try.prog 53 = some (9, 1, 16) := by kernel_rfl
theorem zv_9 : zeroV Try.prog 9 = some (.str ([] : List UInt8)) := by kernel_rfl
theorem si_24 : slInfo Try.prog 24 = some (46, 7, 64) := by kernel_rfl
theorem pl_26 : places Try.prog 26 = some [(0, 1), (1, 1)] := by kernel_rfl
theorem ts_26 : tySz Try.prog 26 = some 2 := by kernel_rfl
theorem ss_53 : (slEl Try.prog 53).isSome = true := by kernel_rfl
theorem en_62 : entB Try.prog 62 = true := by kernel_rfl
theorem fo_26_0 : fldOff Try.prog 26 0 = some 0 := by kernel_rfl
theorem ic_2 : isCell Try.prog 2 = true := by kernel_rfl
theorem fo_26_1 : fldOff Try.prog 26 1 = some 1 := by kernel_rfl
theorem ic_24 : isCell Try.prog 24 = true := by kernel_rfl
theorem sl_53 : slEl Try.prog 53 = some (9, 1) := by kernel_rfl
theorem ic_9 : isCell Try.prog 9 = true := by kernel_rfl
theorem en_63 : entB Try.prog 63 = true := by kernel_rfl
theorem ts_24 : tySz Try.prog 24 = some 1 := by kernel_rfl
theorem ag_26 : aggSz Try.prog 26 = some 2 := by kernel_rfl
theorem en_26 : entB Try.prog 26 = true := by kernel_rfl
theorem en_27 : entB Try.prog 27 = true := by kernel_rfl
theorem si_28 : slInfo Try.prog 28 = some (2, 1, 8) := by kernel_rfl
theorem zv_2 : zeroV Try.prog 2 = some (.int .i64 0) := by kernel_rfl
theorem ss_28 : (slEl Try.prog 28).isSome = true := by kernel_rfl
theorem sl_28 : slEl Try.prog 28 = some (2, 1) := by kernel_rfl
theorem sl_24 : slEl Try.prog 24 = some (46, 7) := by kernel_rfl
theorem fo_46_1 : fldOff Try.prog 46 1 = some 1 := by kernel_rfl
theorem fo_46_2 : fldOff Try.prog 46 2 = some 2 := by kernel_rfl
theorem en_127 : entB Try.prog 127 = true := by kernel_rfl
theorem en_128 : entB Try.prog 128 = true := by kernel_rfl
theorem ss_24 : (slEl Try.prog 24).isSome = true := by kernel_rfl
theorem en_108 : entB Try.prog 108 = true := by kernel_rfl
theorem en_64 : entB Try.prog 64 = true := by kernel_rfl
theorem si_66 : slInfo Try.prog 66 = some (28, 1, 24) := by kernel_rfl
theorem zv_28 : zeroV Try.prog 28 = some (.nls) := by kernel_rfl
theorem en_65 : entB Try.prog 65 = true := by kernel_rfl
theorem en_66 : entB Try.prog 66 = true := by kernel_rfl
theorem en_28 : entB Try.prog 28 = true := by kernel_rfl
theorem ss_66 : (slEl Try.prog 66).isSome = true := by kernel_rfl
theorem sl_66 : slEl Try.prog 66 = some (28, 1) := by kernel_rfl
theorem ic_28 : isCell Try.prog 28 = true := by kernel_rfl
theorem en_29 : entB Try.prog 29 = true := by kernel_rfl
theorem zv_31 : zeroV Try.prog 31 = some (.st [.int .i64 0, .int .i64 0, .int .i64 0]) := by kernel_rfl
theorem pl_31 : places Try.prog 31 = some [(0, 1), (1, 1), (2, 1)] := by kernel_rfl
theorem ts_31 : tySz Try.prog 31 = some 3 := by kernel_rfl
theorem fo_31_0 : fldOff Try.prog 31 0 = some 0 := by kernel_rfl
theorem fo_46_3 : fldOff Try.prog 46 3 = some 3 := by kernel_rfl
theorem fo_31_1 : fldOff Try.prog 31 1 = some 1 := by kernel_rfl
theorem ag_31 : aggSz Try.prog 31 = some 3 := by kernel_rfl
theorem zv_34 : zeroV Try.prog 34 = some (.st [.str ([] : List UInt8), .int .i64 0, .int .i64 0]) := by kernel_rfl
theorem pl_34 : places Try.prog 34 = some [(0, 1), (1, 1), (2, 1)] := by kernel_rfl
theorem ts_34 : tySz Try.prog 34 = some 3 := by kernel_rfl
theorem fo_34_2 : fldOff Try.prog 34 2 = some 2 := by kernel_rfl
theorem ag_34 : aggSz Try.prog 34 = some 3 := by kernel_rfl
theorem st_9 : isStr Try.prog 9 = true := by kernel_rfl
theorem en_133 : entB Try.prog 133 = true := by kernel_rfl
theorem en_134 : entB Try.prog 134 = true := by kernel_rfl
theorem fo_46_0 : fldOff Try.prog 46 0 = some 0 := by kernel_rfl
theorem en_121 : entB Try.prog 121 = true := by kernel_rfl
theorem en_82 : entB Try.prog 82 = true := by kernel_rfl
theorem en_109 : entB Try.prog 109 = true := by kernel_rfl
theorem en_110 : entB Try.prog 110 = true := by kernel_rfl
theorem fo_31_2 : fldOff Try.prog 31 2 = some 2 := by kernel_rfl
theorem en_111 : entB Try.prog 111 = true := by kernel_rfl
theorem en_112 : entB Try.prog 112 = true := by kernel_rfl
theorem en_68 : entB Try.prog 68 = true := by kernel_rfl
theorem en_69 : entB Try.prog 69 = true := by kernel_rfl
theorem en_70 : entB Try.prog 70 = true := by kernel_rfl
theorem en_113 : entB Try.prog 113 = true := by kernel_rfl
theorem en_72 : entB Try.prog 72 = true := by kernel_rfl
theorem en_71 : entB Try.prog 71 = true := by kernel_rfl
theorem en_73 : entB Try.prog 73 = true := by kernel_rfl
theorem en_31 : entB Try.prog 31 = true := by kernel_rfl
theorem en_32 : entB Try.prog 32 = true := by kernel_rfl
theorem en_122 : entB Try.prog 122 = true := by kernel_rfl
theorem en_45 : entB Try.prog 45 = true := by kernel_rfl
theorem en_88 : entB Try.prog 88 = true := by kernel_rfl
theorem en_89 : entB Try.prog 89 = true := by kernel_rfl
theorem en_116 : entB Try.prog 116 = true := by kernel_rfl
theorem en_44 : entB Try.prog 44 = true := by kernel_rfl
theorem en_129 : entB Try.prog 129 = true := by kernel_rfl
theorem fo_34_0 : fldOff Try.prog 34 0 = some 0 := by kernel_rfl
theorem fo_34_1 : fldOff Try.prog 34 1 = some 1 := by kernel_rfl
theorem en_114 : entB Try.prog 114 = true := by kernel_rfl
theorem ss_78 : (slEl Try.prog 78).isSome = true := by kernel_rfl
theorem sl_78 : slEl Try.prog 78 = some (34, 3) := by kernel_rfl
theorem en_115 : entB Try.prog 115 = true := by kernel_rfl
theorem en_130 : entB Try.prog 130 = true := by kernel_rfl
theorem en_118 : entB Try.prog 118 = true := by kernel_rfl
theorem en_117 : entB Try.prog 117 = true := by kernel_rfl
theorem en_119 : entB Try.prog 119 = true := by kernel_rfl
theorem en_75 : entB Try.prog 75 = true := by kernel_rfl
theorem zv_75 : zeroV Try.prog 75 = some (.st [.int .i64 0, .nls, .nls, .int .i64 0]) := by kernel_rfl
theorem en_74 : entB Try.prog 74 = true := by kernel_rfl
theorem pl_75 : places Try.prog 75 = some [(0, 2), (2, 1), (3, 1)] := by kernel_rfl
theorem ts_75 : tySz Try.prog 75 = some 4 := by kernel_rfl
theorem en_76 : entB Try.prog 76 = true := by kernel_rfl
theorem ag_75 : aggSz Try.prog 75 = some 4 := by kernel_rfl
theorem cv_3_150 : cvInt Try.prog 3 150 = some .u64 := by kernel_rfl
theorem cv_150_3 : cvInt Try.prog 150 3 = some .i64 := by kernel_rfl
theorem ic_83 : isCell Try.prog 83 = true := by kernel_rfl
theorem en_78 : entB Try.prog 78 = true := by kernel_rfl
theorem en_77 : entB Try.prog 77 = true := by kernel_rfl
theorem en_90 : entB Try.prog 90 = true := by kernel_rfl
theorem cv_163_107 : cvInt Try.prog 163 107 = some .u64 := by kernel_rfl
theorem cv_107_163 : cvInt Try.prog 107 163 = some .u32 := by kernel_rfl
theorem cv_150_163 : cvInt Try.prog 150 163 = some .u32 := by kernel_rfl
theorem en_131 : entB Try.prog 131 = true := by kernel_rfl
theorem cv_163_150 : cvInt Try.prog 163 150 = some .u64 := by kernel_rfl
theorem en_132 : entB Try.prog 132 = true := by kernel_rfl
theorem en_120 : entB Try.prog 120 = true := by kernel_rfl
theorem fo_75_1 : fldOff Try.prog 75 1 = some 2 := by kernel_rfl
theorem fo_75_0 : fldOff Try.prog 75 0 = some 0 := by kernel_rfl
theorem en_79 : entB Try.prog 79 = true := by kernel_rfl
theorem en_80 : entB Try.prog 80 = true := by kernel_rfl
theorem zv_127 : zeroV Try.prog 127 = some (.st [.int .i64 0, .int .i64 0]) := by kernel_rfl
theorem ae_127 : arrEl Try.prog 127 = some (2, 2, 1) := by kernel_rfl
theorem zv_128 : zeroV Try.prog 128 = some (.st [.int .i64 0, .int .i64 0, .int .i64 0, .int .i64 0]) := by kernel_rfl
theorem ae_128 : arrEl Try.prog 128 = some (2, 127, 2) := by kernel_rfl
theorem ag_127 : aggSz Try.prog 127 = some 2 := by kernel_rfl
theorem ts_127 : tySz Try.prog 127 = some 2 := by kernel_rfl
theorem en_46 : entB Try.prog 46 = true := by kernel_rfl
theorem fo_75_2 : fldOff Try.prog 75 2 = some 3 := by kernel_rfl
theorem en_37 : entB Try.prog 37 = true := by kernel_rfl
theorem en_36 : entB Try.prog 36 = true := by kernel_rfl
theorem si_78 : slInfo Try.prog 78 = some (34, 3, 32) := by kernel_rfl
theorem en_33 : entB Try.prog 33 = true := by kernel_rfl
theorem en_35 : entB Try.prog 35 = true := by kernel_rfl
theorem en_34 : entB Try.prog 34 = true := by kernel_rfl
theorem en_38 : entB Try.prog 38 = true := by kernel_rfl
theorem en_81 : entB Try.prog 81 = true := by kernel_rfl
theorem en_83 : entB Try.prog 83 = true := by kernel_rfl
theorem en_84 : entB Try.prog 84 = true := by kernel_rfl
theorem en_85 : entB Try.prog 85 = true := by kernel_rfl
theorem en_86 : entB Try.prog 86 = true := by kernel_rfl
theorem en_87 : entB Try.prog 87 = true := by kernel_rfl
theorem en_39 : entB Try.prog 39 = true := by kernel_rfl
theorem en_40 : entB Try.prog 40 = true := by kernel_rfl
theorem en_41 : entB Try.prog 41 = true := by kernel_rfl
theorem en_42 : entB Try.prog 42 = true := by kernel_rfl
theorem en_43 : entB Try.prog 43 = true := by kernel_rfl
theorem cv_5_2 : cvInt Try.prog 5 2 = some .i64 := by kernel_rfl
theorem en_5 : entB Try.prog 5 = true := by kernel_rfl
theorem en_6 : entB Try.prog 6 = true := by kernel_rfl
theorem en_7 : entB Try.prog 7 = true := by kernel_rfl
theorem en_8 : entB Try.prog 8 = true := by kernel_rfl
theorem en_9 : entB Try.prog 9 = true := by kernel_rfl
theorem en_10 : entB Try.prog 10 = true := by kernel_rfl
theorem en_11 : entB Try.prog 11 = true := by kernel_rfl
theorem en_12 : entB Try.prog 12 = true := by kernel_rfl
theorem en_13 : entB Try.prog 13 = true := by kernel_rfl
theorem en_14 : entB Try.prog 14 = true := by kernel_rfl
theorem en_15 : entB Try.prog 15 = true := by kernel_rfl

/-! ### laws_r8Long -/
theorem c_laws_r8Long (code : List Int) (more : List Int) : Con Try.prog 5 [.sl 1 (code.map (V.int .u8)), .sl 1 (more.map (V.int .u8))] [] (.bool (m_laws_r8Long code more)) ([]) := by
  refine con_intro (out := fun r : Bool => ((.bool r : V), ([] : List (Nat × Option O)))) (r := (m_laws_r8Long code more)) Try.func5 rfl Try.ntmps5 rfl ?_
  refine run_fact (t := 0) rfl fun hl => ?_
  have l1 := hl; clear hl; simp only [List.length_map] at l1
  refine run_fact (t := 1) rfl fun hl => ?_
  have l2 := hl; clear hl; simp only [List.length_map] at l2
  refine run_seq ?_
  refine run_region (q_assign .n (.c rfl) rfl <|
      Lex.nil) ?_
  refine run_seq ?_
  refine run_region (q_move .n (.t rfl) rfl <|
      q_len .n (.t rfl) rfl len_map ss_22 rfl <|
      q_int .n (.t rfl) (.c rfl) rfl rfl <|
      q_move .n (.t rfl) rfl <|
      q_move (.f rfl rfl) (.t rfl) rfl <|
      q_len (.f rfl rfl) (.u rfl id) rfl len_map ss_22 rfl <|
      q_int (.f rfl rfl) (.u rfl id) (.c rfl) rfl rfl <|
      q_or .n (.t rfl) (.u rfl id) rfl <|
      q_assign .n (.t rfl) rfl <|
      Lex.nil) ?_
  exact run_ret [] (.cons (.t rfl rfl) .nil) rfl trivial rfl

/-! ### spec_l00From -/
theorem c_spec_l00From (code : List Int) : Con Try.prog 26 [.sl 1 (code.map (V.int .u8))] [] (.op 100 0 0 0) ([(100, some (.box 109 [.sl 1 ((m_spec_l00From code).code.map (V.int .u8)), .int .i64 (m_spec_l00From code).at_, .int .u64 (m_spec_l00From code).seed]))]) := by
  refine con_intro (out := fun r : gl00Src => ((.op 100 0 0 0 : V), ([(100, some (.box 109 [.sl 1 (r.code.map (V.int .u8)), .int .i64 r.at_, .int .u64 r.seed]))] : List (Nat × Option O)))) (r := (m_spec_l00From code)) Try.func26 rfl Try.ntmps26 rfl ?_
  refine run_fact (t := 0) rfl fun hl => ?_
  have l1 := hl; clear hl; simp only [List.length_map] at l1
  refine run_seq ?_
  refine run_region (q_unread .n rfl rfl <|
      Lex.nil) ?_
  refine run_seq ?_
  refine run_region (q_move .n (.t rfl) rfl <|
      q_build (us := [.sl 1 (code.map (V.int .u8)), .int .i64 0, .int .u64 0]) .n (.cons (.t rfl) .nil) zv_109 pl_109 rfl rfl rfl <|
      q_box (l := 200) .n rfl (.t rfl) rfl rfl rfl rfl <|
      q_assign .n (.t rfl) rfl <|
      Lex.nil) ?_
  exact run_ret [(100, 200)] (.cons (.t rfl rfl) .nil) rfl ⟨rfl, trivial⟩ rfl

/-! ### spec_l00Src_next -/
theorem c_spec_l00Src_next (s_ : gl00Src) (hp1 : Lim s_ 1000000) : Con Try.prog 67 [.op 0 0 0 0] [(0, some (.box 109 [.sl 1 (s_.code.map (V.int .u8)), .int .i64 s_.at_, .int .u64 s_.seed]))] (.int .i64 (m_spec_l00Src_next s_).1) ([(0, some (.box 109 [.sl 1 ((m_spec_l00Src_next s_).2.code.map (V.int .u8)), .int .i64 (m_spec_l00Src_next s_).2.at_, .int .u64 (m_spec_l00Src_next s_).2.seed]))]) := by
  refine con_intro (out := fun r : Int × gl00Src => ((.int .i64 r.1 : V), ([(0, some (.box 109 [.sl 1 (r.2.code.map (V.int .u8)), .int .i64 r.2.at_, .int .u64 r.2.seed]))] : List (Nat × Option O)))) (r := (m_spec_l00Src_next s_)) Try.func67 rfl Try.ntmps67 rfl ?_
  have hL := hp1.2 (by decide)
  refine run_seq ?_
  refine run_region (q_assign .n (.c rfl) rfl <|
      Lex.nil) ?_
  refine run_seq ?_
  refine run_region (q_assign .n (.c rfl) rfl <|
      Lex.nil) ?_
  refine run_seq ?_
  refine run_seq ?_
  refine run_draw fmo (q_move .n (.t rfl) rfl <|
      q_nilc_ow .n (.t rfl) rfl <|
      q_fld_ow .n (.t rfl) fo_109_1 rfl <|
      q_ld1_ow .n (.t rfl) rfl (.inr rfl) (fun _ => rfl) rfl ic_3 rfl <|
      q_move .n (.t rfl) rfl <|
      q_nilc_ow .n (.t rfl) rfl <|
      q_fld_ow .n (.t rfl) fo_109_0 rfl <|
      q_ld1_ow .n (.t rfl) rfl (.inr rfl) (fun _ => rfl) rfl ic_22 rfl <|
      q_len .n (.t rfl) rfl len_map ss_22 rfl <|
      q_int .n (.t rfl) (.t rfl) rfl rfl <|
      Lex.nil) (by kernel_rfl) ?_
  refine run_fact (t := 11) rfl fun hl => ?_
  have l1 := hl; clear hl; simp only [List.length_map] at l1
  refine run_join _ _ rfl (fun v2 : Int => True) (fun v2 => ⟨[(0, some (true, .op 0 0 0 0)), (3, some (true, .int .i64 v2))], [(0, some (.box 109 [.sl 1 (s_.code.map (V.int .u8)), .int .i64 s_.at_, .int .u64 s_.seed]))]⟩) (fun v2 _ => ?_) (fun j3 hj4 => ?_)
  · refine run_seq ?_
    refine run_region (q_move .n (.t rfl) rfl <|
        q_nilc_ow .n (.t rfl) rfl <|
        q_fld_ow .n (.t rfl) fo_109_1 rfl <|
        q_ld1_ow .n (.t rfl) rfl (.inr rfl) (fun _ => rfl) rfl ic_3 rfl <|
        q_int .n (.t rfl) (.c rfl) rfl rfl <|
        q_nilc_ow .n (.t rfl) rfl <|
        q_fld_ow .n (.t rfl) fo_109_1 rfl <|
        q_st_boxm [.sl 1 (s_.code.map (V.int .u8)), .int .i64 (IntKind.wrap .i64 (s_.at_ + 1)), .int .u64 s_.seed] .n rfl (.t rfl) (.t rfl) rfl ts_3 rfl rfl <|
        Lex.nil) ?_
    refine run_seq ?_
    refine run_region (q_move .n (.t rfl) rfl <|
        q_move .n (.t rfl) rfl <|
        q_nilc_ow .n (.t rfl) rfl <|
        q_fld_ow .n (.t rfl) fo_109_2 rfl <|
        q_ld1_ow .n (.t rfl) rfl (.inr rfl) (fun _ => rfl) rfl ic_107 rfl <|
        q_int .n (.t rfl) (.c rfl) rfl rfl <|
        q_move .n (.t rfl) rfl <|
        q_conv .n (.t rfl) cv_3_107 rfl <|
        q_int .n (.t rfl) (.t rfl) rfl rfl <|
        q_int .n (.t rfl) (.c rfl) rfl rfl <|
        q_nilc_ow .n (.t rfl) rfl <|
        q_fld_ow .n (.t rfl) fo_109_2 rfl <|
        q_st_boxm [.sl 1 (s_.code.map (V.int .u8)), .int .i64 (IntKind.wrap .i64 (s_.at_ + 1)), .int .u64 (IntKind.wrap .u64 ((IntKind.wrap .u64 ((IntKind.wrap .u64 (s_.seed * 6364136223846793005)) + (IntKind.wrap .u64 v2))) + 1442695040888963407))] .n rfl (.t rfl) (.t rfl) rfl ts_107 rfl rfl <|
        Lex.nil) ?_
    refine run_seq ?_
    refine run_seq ?_
    refine run_draw fmo (q_move .n (.t rfl) rfl <|
        q_nilc_ow .n (.t rfl) rfl <|
        q_fld_ow .n (.t rfl) fo_109_1 rfl <|
        q_ld1_ow .n (.t rfl) rfl (.inr rfl) (fun _ => rfl) rfl ic_3 rfl <|
        q_move .n (.t rfl) rfl <|
        q_nilc_ow .n (.t rfl) rfl <|
        q_fld_ow .n (.t rfl) fo_109_0 rfl <|
        q_ld1_ow .n (.t rfl) rfl (.inr rfl) (fun _ => rfl) rfl ic_22 rfl <|
        q_len .n (.t rfl) rfl len_map ss_22 rfl <|
        q_int .n (.t rfl) (.t rfl) rfl rfl <|
        Lex.nil) (by kernel_rfl) ?_
    refine run_cond (.t rfl) rfl (fun h6 => ?_) (fun h6 => ?_)
    · try simp only [Bool.and_eq_true, Bool.or_eq_true, Bool.not_eq_true', Bool.and_eq_false_iff, Bool.or_eq_false_iff, Bool.not_eq_false', decide_eq_true_eq, decide_eq_false_iff_not, beq_iff_eq, bne_iff_ne, beq_eq_false_iff_ne, bne_eq_false_iff_eq, Bool.true_and, ne_eq, Decidable.not_not, Int.not_lt, Int.not_le, Nat.not_lt, Nat.not_le, strB_nil, strB_nil', strB_nnil, strB_nnil'] at h6
      refine run_seq ?_
      refine run_region (q_move .n (.t rfl) rfl <|
          q_assign .n (.t rfl) rfl <|
          Lex.nil) ?_
      exact run_ret [] (.cons (.t rfl rfl) .nil) rfl ⟨rfl, trivial⟩ rfl
    · try simp only [Bool.and_eq_true, Bool.or_eq_true, Bool.not_eq_true', Bool.and_eq_false_iff, Bool.or_eq_false_iff, Bool.not_eq_false', decide_eq_true_eq, decide_eq_false_iff_not, beq_iff_eq, bne_iff_ne, beq_eq_false_iff_ne, bne_eq_false_iff_eq, Bool.true_and, ne_eq, Decidable.not_not, Int.not_lt, Int.not_le, Nat.not_lt, Nat.not_le, strB_nil, strB_nil', strB_nnil, strB_nnil'] at h6
      refine run_skip ?_
      refine run_seq ?_
      refine run_region (q_move .n (.t rfl) rfl <|
          q_nilc_ow .n (.t rfl) rfl <|
          q_fld_ow .n (.t rfl) fo_109_2 rfl <|
          q_ld1_ow .n (.t rfl) rfl (.inr rfl) (fun _ => rfl) rfl ic_107 rfl <|
          q_shr .n (.t rfl) (.c rfl) (fun _ => by omega) rfl <|
          q_int .n (.t rfl) (.c rfl) rfl rfl <|
          q_conv .n (.t rfl) cv_107_2 rfl <|
          q_assign .n (.t rfl) rfl <|
          Lex.nil) ?_
      exact run_ret [] (.cons (.t rfl rfl) .nil) rfl ⟨rfl, trivial⟩ rfl
  · refine run_cond (.t rfl) rfl (fun h5 => ?_) (fun h5 => ?_)
    · try simp only [Bool.and_eq_true, Bool.or_eq_true, Bool.not_eq_true', Bool.and_eq_false_iff, Bool.or_eq_false_iff, Bool.not_eq_false', decide_eq_true_eq, decide_eq_false_iff_not, beq_iff_eq, bne_iff_ne, beq_eq_false_iff_ne, bne_eq_false_iff_eq, Bool.true_and, ne_eq, Decidable.not_not, Int.not_lt, Int.not_le, Nat.not_lt, Nat.not_le, strB_nil, strB_nil', strB_nnil, strB_nnil'] at h5
      refine run_draw fmo (q_move .n (.t rfl) rfl <|
          q_nilc_ow .n (.t rfl) rfl <|
          q_fld_ow .n (.t rfl) fo_109_0 rfl <|
          q_ld1_ow .n (.t rfl) rfl (.inr rfl) (fun _ => rfl) rfl ic_22 rfl <|
          q_move .n (.t rfl) rfl <|
          q_nilc_ow .n (.t rfl) rfl <|
          q_fld_ow .n (.t rfl) fo_109_1 rfl <|
          q_ld1_ow .n (.t rfl) rfl (.inr rfl) (fun _ => rfl) rfl ic_3 rfl <|
          q_idx_rm .n (.t rfl) (.t rfl) sl_22 (fun _ => by omega) rfl <|
          q_ld1_ro .n (.t rfl) rfl ic_5 rfl <|
          q_conv .n (.t rfl) cv_5_3 rfl <|
          q_assign .n (.t rfl) rfl <|
          Lex.nil) (by kernel_rfl) ?_
      exact run_cont hj4 (IntKind.wrap .i64 (at' s_.code s_.at_)) trivial (sub_of [] ⟨rfl, rfl, trivial⟩ ⟨rfl, trivial⟩ rfl)
    · try simp only [Bool.and_eq_true, Bool.or_eq_true, Bool.not_eq_true', Bool.and_eq_false_iff, Bool.or_eq_false_iff, Bool.not_eq_false', decide_eq_true_eq, decide_eq_false_iff_not, beq_iff_eq, bne_iff_ne, beq_eq_false_iff_ne, bne_eq_false_iff_eq, Bool.true_and, ne_eq, Decidable.not_not, Int.not_lt, Int.not_le, Nat.not_lt, Nat.not_le, strB_nil, strB_nil', strB_nnil, strB_nnil'] at h5
      refine run_skip ?_
      exact run_cont hj4 0 trivial (sub_of [] ⟨rfl, rfl, trivial⟩ ⟨rfl, trivial⟩ rfl)

/-! ### spec_l00Src_pick -/
theorem c_spec_l00Src_pick (s_ : gl00Src) (n_ : Int) (hp1 : Lim s_ 900000) : Con Try.prog 30 [.op 0 0 0 0, .int .i64 n_] [(0, some (.box 109 [.sl 1 (s_.code.map (V.int .u8)), .int .i64 s_.at_, .int .u64 s_.seed]))] (.int .i64 (m_spec_l00Src_pick s_ n_).1) ([(0, some (.box 109 [.sl 1 ((m_spec_l00Src_pick s_ n_).2.code.map (V.int .u8)), .int .i64 (m_spec_l00Src_pick s_ n_).2.at_, .int .u64 (m_spec_l00Src_pick s_ n_).2.seed]))]) := by
  refine con_intro (out := fun r : Int × gl00Src => ((.int .i64 r.1 : V), ([(0, some (.box 109 [.sl 1 (r.2.code.map (V.int .u8)), .int .i64 r.2.at_, .int .u64 r.2.seed]))] : List (Nat × Option O)))) (r := (m_spec_l00Src_pick s_ n_)) Try.func30 rfl Try.ntmps30 rfl ?_
  refine run_seq ?_
  refine run_region (q_assign .n (.c rfl) rfl <|
      Lex.nil) ?_
  refine run_seq ?_
  refine run_seq ?_
  refine run_region (q_move .n (.t rfl) rfl <|
      q_int .n (.t rfl) (.c rfl) rfl rfl <|
      Lex.nil) ?_
  refine run_cond (.t rfl) rfl (fun h1 => ?_) (fun h1 => ?_)
  · try simp only [Bool.and_eq_true, Bool.or_eq_true, Bool.not_eq_true', Bool.and_eq_false_iff, Bool.or_eq_false_iff, Bool.not_eq_false', decide_eq_true_eq, decide_eq_false_iff_not, beq_iff_eq, bne_iff_ne, beq_eq_false_iff_ne, bne_eq_false_iff_eq, Bool.true_and, ne_eq, Decidable.not_not, Int.not_lt, Int.not_le, Nat.not_lt, Nat.not_le, strB_nil, strB_nil', strB_nnil, strB_nnil'] at h1
    refine run_seq ?_
    refine run_region (q_assign .n (.c rfl) rfl <|
        Lex.nil) ?_
    exact run_ret [] (.cons (.t rfl rfl) .nil) rfl ⟨rfl, trivial⟩ rfl
  · try simp only [Bool.and_eq_true, Bool.or_eq_true, Bool.not_eq_true', Bool.and_eq_false_iff, Bool.or_eq_false_iff, Bool.not_eq_false', decide_eq_true_eq, decide_eq_false_iff_not, beq_iff_eq, bne_iff_ne, beq_eq_false_iff_ne, bne_eq_false_iff_eq, Bool.true_and, ne_eq, Decidable.not_not, Int.not_lt, Int.not_le, Nat.not_lt, Nat.not_le, strB_nil, strB_nil', strB_nnil, strB_nnil'] at h1
    refine run_skip ?_
    refine run_seq ?_
    refine run_region (q_move .n (.t rfl) rfl <|
        q_callM (full := false) [(0, 0)] [] .n rfl .f en_67 (.cons (.t rfl) .nil) (.cons (.b (.mutp rfl)) .nil) (c_spec_l00Src_next s_ (by (try dsimp only); (with_reducible (first | apply Lim.mono | apply Lim.out | apply LimA.mono)); (repeat (with_reducible (first | assumption | apply Lim.pick | apply Lim.next | apply Lim.mk))); omega)) ⟨rfl, trivial⟩ rfl rfl (fun h => Bool.noConfusion h) (fun h => Bool.noConfusion h) rfl <|
        q_assign .n (.t rfl) rfl <|
        Lex.nil) ?_
    refine run_seq ?_
    refine run_seq ?_
    refine run_region (q_move .n (.t rfl) rfl <|
        q_int .n (.t rfl) (.c rfl) rfl rfl <|
        Lex.nil) ?_
    refine run_cond (.t rfl) rfl (fun h2 => ?_) (fun h2 => ?_)
    · try simp only [Bool.and_eq_true, Bool.or_eq_true, Bool.not_eq_true', Bool.and_eq_false_iff, Bool.or_eq_false_iff, Bool.not_eq_false', decide_eq_true_eq, decide_eq_false_iff_not, beq_iff_eq, bne_iff_ne, beq_eq_false_iff_ne, bne_eq_false_iff_eq, Bool.true_and, ne_eq, Decidable.not_not, Int.not_lt, Int.not_le, Nat.not_lt, Nat.not_le, strB_nil, strB_nil', strB_nnil, strB_nnil'] at h2
      refine run_region (q_move .n (.t rfl) rfl <|
          q_int .n (.t rfl) (.c rfl) rfl rfl <|
          q_move .n (.t rfl) rfl <|
          q_callM (full := false) [(0, 0)] [] .n rfl .f en_67 (.cons (.t rfl) .nil) (.cons (.b (.mutp rfl)) .nil) (c_spec_l00Src_next (m_spec_l00Src_next s_).2 (by (try dsimp only); (with_reducible (first | apply Lim.mono | apply Lim.out | apply LimA.mono)); (repeat (with_reducible (first | assumption | apply Lim.pick | apply Lim.next | apply Lim.mk))); omega)) ⟨rfl, trivial⟩ rfl rfl (fun h => Bool.noConfusion h) (fun h => Bool.noConfusion h) rfl <|
          q_int .n (.t rfl) (.t rfl) rfl rfl <|
          q_assign .n (.t rfl) rfl <|
          Lex.nil) ?_
      refine run_seq ?_
      refine run_region (q_move .n (.t rfl) rfl <|
          q_move .n (.t rfl) rfl <|
          q_rem .n (.t rfl) (.t rfl) (fun hg => by omega) rfl <|
          q_assign .n (.t rfl) rfl <|
          Lex.nil) ?_
      exact run_ret [] (.cons (.t rfl rfl) .nil) rfl ⟨rfl, trivial⟩ rfl
    · try simp only [Bool.and_eq_true, Bool.or_eq_true, Bool.not_eq_true', Bool.and_eq_false_iff, Bool.or_eq_false_iff, Bool.not_eq_false', decide_eq_true_eq, decide_eq_false_iff_not, beq_iff_eq, bne_iff_ne, beq_eq_false_iff_ne, bne_eq_false_iff_eq, Bool.true_and, ne_eq, Decidable.not_not, Int.not_lt, Int.not_le, Nat.not_lt, Nat.not_le, strB_nil, strB_nil', strB_nnil, strB_nnil'] at h2
      refine run_skip ?_
      refine run_seq ?_
      refine run_region (q_move .n (.t rfl) rfl <|
          q_move .n (.t rfl) rfl <|
          q_rem .n (.t rfl) (.t rfl) (fun hg => by omega) rfl <|
          q_assign .n (.t rfl) rfl <|
          Lex.nil) ?_
      exact run_ret [] (.cons (.t rfl rfl) .nil) rfl ⟨rfl, trivial⟩ rfl

/-! ### spec_l00Src_one -/
theorem c_spec_l00Src_one (s_ : gl00Src) (n_ : Int) (hp1 : Lim s_ 800000) : Con Try.prog 62 [.op 0 0 0 0, .int .i64 n_] [(0, some (.box 109 [.sl 1 (s_.code.map (V.int .u8)), .int .i64 s_.at_, .int .u64 s_.seed]))] (.bool (m_spec_l00Src_one s_ n_).1) ([(0, some (.box 109 [.sl 1 ((m_spec_l00Src_one s_ n_).2.code.map (V.int .u8)), .int .i64 (m_spec_l00Src_one s_ n_).2.at_, .int .u64 (m_spec_l00Src_one s_ n_).2.seed]))]) := by
  refine con_intro (out := fun r : Bool × gl00Src => ((.bool r.1 : V), ([(0, some (.box 109 [.sl 1 (r.2.code.map (V.int .u8)), .int .i64 r.2.at_, .int .u64 r.2.seed]))] : List (Nat × Option O)))) (r := (m_spec_l00Src_one s_ n_)) Try.func62 rfl Try.ntmps62 rfl ?_
  refine run_seq ?_
  refine run_region (q_assign .n (.c rfl) rfl <|
      Lex.nil) ?_
  refine run_seq ?_
  refine run_region (q_move .n (.t rfl) rfl <|
      q_move .n (.t rfl) rfl <|
      q_callM (full := false) [(0, 0)] [] .n rfl .f en_30 (.cons (.t rfl) (.cons (.t rfl) .nil)) (.cons (.b (.mutp rfl)) (.cons (.b (.a (.same rfl))) .nil)) (c_spec_l00Src_pick s_ n_ (by (try dsimp only); (with_reducible (first | apply Lim.mono | apply Lim.out | apply LimA.mono)); (repeat (with_reducible (first | assumption | apply Lim.pick | apply Lim.next | apply Lim.mk))); omega)) ⟨rfl, trivial⟩ rfl rfl (fun h => Bool.noConfusion h) (fun h => Bool.noConfusion h) rfl <|
      q_int .n (.t rfl) (.c rfl) rfl rfl <|
      q_assign .n (.t rfl) rfl <|
      Lex.nil) ?_
  exact run_ret [] (.cons (.t rfl rfl) .nil) rfl ⟨rfl, trivial⟩ rfl

/-! ### spec_l03DrawOk -/
theorem c_spec_l03DrawOk (s_ : gl00Src) (id : List UInt8) (from_ : Int) (to : Int) (hp1 : Lim s_ 700000) : Con Try.prog 63 [.op 0 0 0 0, .str id, .int .i64 from_, .int .i64 to] [(0, some (.box 109 [.sl 1 (s_.code.map (V.int .u8)), .int .i64 s_.at_, .int .u64 s_.seed]))] (.st [.str (m_spec_l03DrawOk s_ id from_ to).1.Id, .int .i64 (m_spec_l03DrawOk s_ id from_ to).1.From, .int .i64 (m_spec_l03DrawOk s_ id from_ to).1.To, .int .i64 (m_spec_l03DrawOk s_ id from_ to).1.Length, .int .i64 (m_spec_l03DrawOk s_ id from_ to).1.Section, .int .i64 (m_spec_l03DrawOk s_ id from_ to).1.Friction, .int .i64 (m_spec_l03DrawOk s_ id from_ to).1.Shock]) ([(0, some (.box 109 [.sl 1 ((m_spec_l03DrawOk s_ id from_ to).2.code.map (V.int .u8)), .int .i64 (m_spec_l03DrawOk s_ id from_ to).2.at_, .int .u64 (m_spec_l03DrawOk s_ id from_ to).2.seed]))]) := by
  refine con_intro (out := fun r : gAirway × gl00Src => ((.st [.str r.1.Id, .int .i64 r.1.From, .int .i64 r.1.To, .int .i64 r.1.Length, .int .i64 r.1.Section, .int .i64 r.1.Friction, .int .i64 r.1.Shock] : V), ([(0, some (.box 109 [.sl 1 (r.2.code.map (V.int .u8)), .int .i64 r.2.at_, .int .u64 r.2.seed]))] : List (Nat × Option O)))) (r := (m_spec_l03DrawOk s_ id from_ to)) Try.func63 rfl Try.ntmps63 rfl ?_
  refine run_seq ?_
  refine run_region (q_alloc (l := 200) .n rfl zv_46 rfl rfl <|
      Lex.nil) ?_
  refine run_seq ?_
  refine run_region (q_move .n (.t rfl) rfl <|
      q_move .n (.t rfl) rfl <|
      q_move .n (.t rfl) rfl <|
      q_move .n (.t rfl) rfl <|
      q_callM (full := false) [(0, 0)] [] .n rfl .f en_30 (.cons (.t rfl) (.cons (.c rfl) .nil)) (.cons (.b (.mutp rfl)) (.cons (.b (.a (.same rfl))) .nil)) (c_spec_l00Src_pick s_ 900 (by (try dsimp only); (with_reducible (first | apply Lim.mono | apply Lim.out | apply LimA.mono)); (repeat (with_reducible (first | assumption | apply Lim.pick | apply Lim.mk))); omega)) ⟨rfl, trivial⟩ rfl rfl (fun h => Bool.noConfusion h) (fun h => Bool.noConfusion h) rfl <|
      q_int .n (.c rfl) (.t rfl) rfl rfl <|
      q_build (us := [.str id, .int .i64 from_, .int .i64 to, .int .i64 (IntKind.wrap .i64 (20 + (m_spec_l00Src_pick s_ 900).1)), .int .i64 0, .int .i64 0, .int .i64 0]) .n (.cons (.t rfl) (.cons (.t rfl) (.cons (.t rfl) (.cons (.t rfl) .nil)))) zv_46 pl_46 rfl rfl rfl <|
      q_alloc (l := 201) .n rfl zv_46 rfl rfl <|
      q_st_boxm [.str id, .int .i64 from_, .int .i64 to, .int .i64 (IntKind.wrap .i64 (20 + (m_spec_l00Src_pick s_ 900).1)), .int .i64 0, .int .i64 0, .int .i64 0] .n rfl (.t rfl) (.t rfl) rfl ts_46 rfl rfl <|
      Lex.nil) ?_
  refine run_seq ?_
  refine run_region (q_move .n (.t rfl) rfl <|
      q_callM (full := false) [(0, 0)] [] .n rfl .f en_30 (.cons (.t rfl) (.cons (.c rfl) .nil)) (.cons (.b (.mutp rfl)) (.cons (.b (.a (.same rfl))) .nil)) (c_spec_l00Src_pick (m_spec_l00Src_pick s_ 900).2 1500 (by (try dsimp only); (with_reducible (first | apply Lim.mono | apply Lim.out | apply LimA.mono)); (repeat (with_reducible (first | assumption | apply Lim.pick | apply Lim.mk))); omega)) ⟨rfl, trivial⟩ rfl rfl (fun h => Bool.noConfusion h) (fun h => Bool.noConfusion h) rfl <|
      q_int .n (.c rfl) (.t rfl) rfl rfl <|
      q_fld_ow .n (.t rfl) fo_46_4 rfl <|
      q_st_boxm [.str id, .int .i64 from_, .int .i64 to, .int .i64 (IntKind.wrap .i64 (20 + (m_spec_l00Src_pick s_ 900).1)), .int .i64 (IntKind.wrap .i64 (300 + (m_spec_l00Src_pick (m_spec_l00Src_pick s_ 900).2 1500).1)), .int .i64 0, .int .i64 0] .n rfl (.t rfl) (.t rfl) rfl ts_2 rfl rfl <|
      Lex.nil) ?_
  refine run_seq ?_
  refine run_region (q_move .n (.t rfl) rfl <|
      q_callM (full := false) [(0, 0)] [] .n rfl .f en_30 (.cons (.t rfl) (.cons (.c rfl) .nil)) (.cons (.b (.mutp rfl)) (.cons (.b (.a (.same rfl))) .nil)) (c_spec_l00Src_pick (m_spec_l00Src_pick (m_spec_l00Src_pick s_ 900).2 1500).2 200 (by (try dsimp only); (with_reducible (first | apply Lim.mono | apply Lim.out | apply LimA.mono)); (repeat (with_reducible (first | assumption | apply Lim.pick | apply Lim.mk))); omega)) ⟨rfl, trivial⟩ rfl rfl (fun h => Bool.noConfusion h) (fun h => Bool.noConfusion h) rfl <|
      q_int .n (.c rfl) (.t rfl) rfl rfl <|
      q_fld_ow .n (.t rfl) fo_46_5 rfl <|
      q_st_boxm [.str id, .int .i64 from_, .int .i64 to, .int .i64 (IntKind.wrap .i64 (20 + (m_spec_l00Src_pick s_ 900).1)), .int .i64 (IntKind.wrap .i64 (300 + (m_spec_l00Src_pick (m_spec_l00Src_pick s_ 900).2 1500).1)), .int .i64 (IntKind.wrap .i64 (20 + (m_spec_l00Src_pick (m_spec_l00Src_pick (m_spec_l00Src_pick s_ 900).2 1500).2 200).1)), .int .i64 0] .n rfl (.t rfl) (.t rfl) rfl ts_2 rfl rfl <|
      Lex.nil) ?_
  refine run_seq ?_
  refine run_region (q_move .n (.t rfl) rfl <|
      q_callM (full := false) [(0, 0)] [] .n rfl .f en_30 (.cons (.t rfl) (.cons (.c rfl) .nil)) (.cons (.b (.mutp rfl)) (.cons (.b (.a (.same rfl))) .nil)) (c_spec_l00Src_pick (m_spec_l00Src_pick (m_spec_l00Src_pick (m_spec_l00Src_pick s_ 900).2 1500).2 200).2 60 (by (try dsimp only); (with_reducible (first | apply Lim.mono | apply Lim.out | apply LimA.mono)); (repeat (with_reducible (first | assumption | apply Lim.pick | apply Lim.mk))); omega)) ⟨rfl, trivial⟩ rfl rfl (fun h => Bool.noConfusion h) (fun h => Bool.noConfusion h) rfl <|
      q_fld_ow .n (.t rfl) fo_46_6 rfl <|
      q_st_boxm [.str id, .int .i64 from_, .int .i64 to, .int .i64 (IntKind.wrap .i64 (20 + (m_spec_l00Src_pick s_ 900).1)), .int .i64 (IntKind.wrap .i64 (300 + (m_spec_l00Src_pick (m_spec_l00Src_pick s_ 900).2 1500).1)), .int .i64 (IntKind.wrap .i64 (20 + (m_spec_l00Src_pick (m_spec_l00Src_pick (m_spec_l00Src_pick s_ 900).2 1500).2 200).1)), .int .i64 (m_spec_l00Src_pick (m_spec_l00Src_pick (m_spec_l00Src_pick (m_spec_l00Src_pick s_ 900).2 1500).2 200).2 60).1] .n rfl (.t rfl) (.t rfl) rfl ts_2 rfl rfl <|
      Lex.nil) ?_
  refine run_seq ?_
  refine run_region (q_ldN_ow .n (.t rfl) rfl (.inr rfl) ag_46 (fun _ => rfl) rfl rfl <|
      q_st_boxm [.str id, .int .i64 from_, .int .i64 to, .int .i64 (IntKind.wrap .i64 (20 + (m_spec_l00Src_pick s_ 900).1)), .int .i64 (IntKind.wrap .i64 (300 + (m_spec_l00Src_pick (m_spec_l00Src_pick s_ 900).2 1500).1)), .int .i64 (IntKind.wrap .i64 (20 + (m_spec_l00Src_pick (m_spec_l00Src_pick (m_spec_l00Src_pick s_ 900).2 1500).2 200).1)), .int .i64 (m_spec_l00Src_pick (m_spec_l00Src_pick (m_spec_l00Src_pick (m_spec_l00Src_pick s_ 900).2 1500).2 200).2 60).1] .n rfl (.t rfl) (.t rfl) rfl ts_46 rfl rfl <|
      Lex.nil) ?_
  exact run_ret [] (.cons (.cN rfl rfl ag_46 rfl rfl) .nil) (by first | rfl | (simp only [put_len]; rfl)) ⟨rfl, trivial⟩ rfl

/-! ### spec_l04DrawOk -/
set_option maxRecDepth 100000 in
set_option maxHeartbeats 4000000 in
theorem c_spec_l04DrawOk (s_ : gl00Src) (hp1 : Lim s_ 600000) : Con Try.prog 27 [.op 0 0 0 0] [(0, some (.box 109 [.sl 1 (s_.code.map (V.int .u8)), .int .i64 s_.at_, .int .u64 s_.seed]))] (.st [.int .i64 (m_spec_l04DrawOk s_).1.Junctions, .os 100 (m_spec_l04DrawOk s_).1.Airways.length]) ([(100, some (.row 46 7 ((m_spec_l04DrawOk s_).1.Airways.map gAirway.v))), (0, some (.box 109 [.sl 1 ((m_spec_l04DrawOk s_).2.code.map (V.int .u8)), .int .i64 (m_spec_l04DrawOk s_).2.at_, .int .u64 (m_spec_l04DrawOk s_).2.seed]))]) := by
  refine con_intro (out := fun r : gMine × gl00Src => ((.st [.int .i64 r.1.Junctions, .os 100 r.1.Airways.length] : V), ([(100, some (.row 46 7 (r.1.Airways.map gAirway.v))), (0, some (.box 109 [.sl 1 (r.2.code.map (V.int .u8)), .int .i64 r.2.at_, .int .u64 r.2.seed]))] : List (Nat × Option O)))) (r := (m_spec_l04DrawOk s_)) Try.func27 rfl Try.ntmps27 rfl ?_
  have hJ := Lim.num (k := 5) hp1
  have hW := wr64 (n := 2 + (m_spec_l00Src_pick s_ 5).1) (by omega)
  refine run_seq ?_
  refine run_region (q_alloc (l := 200) .n rfl zv_26 rfl rfl <|
      Lex.nil) ?_
  refine run_seq ?_
  refine run_region (q_bslicem ([([97] : List UInt8), ([98] : List UInt8), ([99] : List UInt8), ([100] : List UInt8), ([101] : List UInt8), ([102] : List UInt8), ([103] : List UInt8), ([104] : List UInt8)] : List (List UInt8)) (f := V.str) (l := 201) .n rfl rfl (.cons (.c rfl) (.cons (.c rfl) (.cons (.c rfl) (.cons (.c rfl) (.cons (.c rfl) (.cons (.c rfl) (.cons (.c rfl) (.cons (.c rfl) .nil)))))))) rfl si_53 zv_9 rfl rfl rfl <|
      q_assign .n (.t rfl) rfl <|
      Lex.nil) ?_
  refine run_seq ?_
  refine run_region (q_move .n (.t rfl) rfl <|
      q_callM (full := false) [(0, 0)] [] .n rfl .f en_30 (.cons (.t rfl) (.cons (.c rfl) .nil)) (.cons (.b (.mutp rfl)) (.cons (.b (.a (.same rfl))) .nil)) (c_spec_l00Src_pick s_ 5 (by (try dsimp only); (with_reducible (first | apply Lim.mono | apply Lim.out | apply LimA.mono)); (repeat (with_reducible (first | assumption | apply Lim.bif1 | apply Lim.among | apply Lim.text | apply Lim.one | apply Lim.pick | apply Lim.draw3 | apply Lim.mk))); omega)) ⟨rfl, trivial⟩ rfl rfl (fun h => Bool.noConfusion h) (fun h => Bool.noConfusion h) rfl <|
      q_int .n (.c rfl) (.t rfl) rfl rfl <|
      q_bslicem ([] : List gAirway) (f := gAirway.v) (l := 202) .n rfl rfl .nil rfl si_24 zv_46 rfl rfl rfl <|
      q_build (us := [.int .i64 (IntKind.wrap .i64 (2 + (m_spec_l00Src_pick s_ 5).1)), .os 202 ([] : List gAirway).length]) .n (.cons (.t rfl) (.cons (.t rfl) .nil)) zv_26 pl_26 rfl rfl rfl <|
      q_alloc (l := 203) .n rfl zv_26 rfl rfl <|
      q_st_boxm [.int .i64 (IntKind.wrap .i64 (2 + (m_spec_l00Src_pick s_ 5).1)), .os 202 ([] : List gAirway).length] .n rfl (.t rfl) (.t rfl) rfl ts_26 rfl rfl <|
      Lex.nil) ?_
  refine run_seq ?_
  refine run_seq ?_
  refine run_region (q_assign .n (.c rfl) rfl <|
      Lex.nil) ?_
  refine run_block ?_
  refine run_LOOP (m_spec_l04DrawOk_b1 s_) _ _ _ rfl (fun (x1 : (List Int) × Int × Int × Int × (List gAirway)) => 0 ≤ x1.2.2.2.1 ∧ x1.2.2.2.1 ≤ (([([97] : List UInt8), ([98] : List UInt8), ([99] : List UInt8), ([100] : List UInt8), ([101] : List UInt8), ([102] : List UInt8), ([103] : List UInt8), ([104] : List UInt8)] : List (List UInt8)).length : Int) ∧ (x1.2.2.2.2.length : Int) + 0 ≤ x1.2.2.2.1 + (([] : List gAirway).length : Int) ∧ x1.2.2.2.1 ≤ 8 ∧ (x1.2.2.2.2.length : Int) ≤ x1.2.2.2.1 ∧ LimA x1.1 x1.2.1 (600002 + 20 * x1.2.2.2.1)) (fun x1 => 0 ≤ x1.2.2.2.1 ∧ x1.2.2.2.1 ≤ (([([97] : List UInt8), ([98] : List UInt8), ([99] : List UInt8), ([100] : List UInt8), ([101] : List UInt8), ([102] : List UInt8), ([103] : List UInt8), ([104] : List UInt8)] : List (List UInt8)).length : Int) ∧ (x1.2.2.2.2.length : Int) + 0 ≤ x1.2.2.2.1 + (([] : List gAirway).length : Int) ∧ x1.2.2.2.1 ≤ 8 ∧ (x1.2.2.2.2.length : Int) ≤ x1.2.2.2.1 ∧ LimA x1.1 x1.2.1 (600002 + 20 * x1.2.2.2.1) ∧ (([([97] : List UInt8), ([98] : List UInt8), ([99] : List UInt8), ([100] : List UInt8), ([101] : List UInt8), ([102] : List UInt8), ([103] : List UInt8), ([104] : List UInt8)] : List (List UInt8)).length : Int) ≤ x1.2.2.2.1) (fun x1 => ((([([97] : List UInt8), ([98] : List UInt8), ([99] : List UInt8), ([100] : List UInt8), ([101] : List UInt8), ([102] : List UInt8), ([103] : List UInt8), ([104] : List UInt8)] : List (List UInt8)).length : Int) - x1.2.2.2.1 : Int).toNat) (fun x1 => ⟨[(0, some (true, .op 0 0 0 0)), (2, some (true, .op 200 0 0 0)), (3, some (true, .os 201 ([([97] : List UInt8), ([98] : List UInt8), ([99] : List UInt8), ([100] : List UInt8), ([101] : List UInt8), ([102] : List UInt8), ([103] : List UInt8), ([104] : List UInt8)] : List (List UInt8)).length)), (4, some (true, .op 203 0 0 0)), (5, some (true, .int .i64 x1.2.2.2.1))], [(0, some (.box 109 [.sl 1 (x1.1.map (V.int .u8)), .int .i64 x1.2.1, .int .u64 x1.2.2.1])), (200, some (.box 26 [.int .i64 0, .nls])), (201, some (.row 9 1 (([([97] : List UInt8), ([98] : List UInt8), ([99] : List UInt8), ([100] : List UInt8), ([101] : List UInt8), ([102] : List UInt8), ([103] : List UInt8), ([104] : List UInt8)] : List (List UInt8)).map V.str))), (202, some (.row 46 7 (x1.2.2.2.2.map gAirway.v))), (203, some (.box 26 [.int .i64 (IntKind.wrap .i64 (2 + (m_spec_l00Src_pick s_ 5).1)), .os 202 x1.2.2.2.2.length]))]⟩) (fun x1 => ⟨[(2, some (true, .op 200 0 0 0)), (4, some (true, .op 203 0 0 0))], [(0, some (.box 109 [.sl 1 (x1.1.map (V.int .u8)), .int .i64 x1.2.1, .int .u64 x1.2.2.1])), (200, some (.box 26 [.int .i64 0, .nls])), (202, some (.row 46 7 (x1.2.2.2.2.map gAirway.v))), (203, some (.box 26 [.int .i64 (IntKind.wrap .i64 (2 + (m_spec_l00Src_pick s_ 5).1)), .os 202 x1.2.2.2.2.length]))]⟩) ⟨by (simp only [List.length_append, List.length_cons, List.length_nil, List.length_replicate, put_len] at * <;> omega), by (simp only [List.length_append, List.length_cons, List.length_nil, List.length_replicate, put_len] at * <;> omega), by (simp only [List.length_append, List.length_cons, List.length_nil, List.length_replicate, put_len] at * <;> omega), by (simp only [List.length_append, List.length_cons, List.length_nil, List.length_replicate, put_len] at * <;> omega), by (simp only [List.length_append, List.length_cons, List.length_nil, List.length_replicate, put_len] at * <;> omega), by (try dsimp only); (with_reducible (first | apply Lim.mono | apply Lim.out | apply LimA.mono)); (repeat (with_reducible (first | assumption | apply Lim.bif1 | apply Lim.among | apply Lim.text | apply Lim.one | apply Lim.pick | apply Lim.draw3 | apply Lim.mk))); omega⟩ (by (simp only [List.length_append, List.length_cons, List.length_nil, List.length_replicate, put_len] at * <;> omega)) (sub_of [] ⟨rfl, rfl, rfl, rfl, rfl, trivial⟩ ⟨rfl, rfl, rfl, rfl, rfl, trivial⟩ rfl) ?_ ?_
  · intro x1 i15
    obtain ⟨e16, e17, e18, e19, e20, e21, e22⟩ := i15
    try dsimp only at *
    refine run_seq ?_
    refine run_region (q_ldN_ow .n (.t rfl) rfl (.inr rfl) ag_26 (fun _ => rfl) rfl rfl <|
        q_st_boxm [.int .i64 (IntKind.wrap .i64 (2 + (m_spec_l00Src_pick s_ 5).1)), .os 202 x1.2.2.2.2.length] .n rfl (.t rfl) (.t rfl) rfl ts_26 rfl rfl <|
        Lex.nil) ?_
    exact run_ret [(100, 202)] (.cons (.cN rfl rfl ag_26 rfl rfl) .nil) (by first | rfl | (simp only [put_len]; rfl)) ⟨rfl, rfl, trivial⟩ rfl
  · intro rec1 k1 hk1 x1 i2
    obtain ⟨e23, e24, e25, e26, e27, e28⟩ := i2
    try dsimp only at *
    refine run_seq ?_
    refine run_seq ?_
    refine run_region (q_move .n (.t rfl) rfl <|
        q_move .n (.t rfl) rfl <|
        q_len .n (.t rfl) rfl rfl ss_53 rfl <|
        q_int .n (.t rfl) (.t rfl) rfl rfl <|
        Lex.nil) ?_
    refine run_cond (.t rfl) rfl (fun h3 => ?_) (fun h3 => ?_)
    · try simp only [Bool.and_eq_true, Bool.or_eq_true, Bool.not_eq_true', Bool.and_eq_false_iff, Bool.or_eq_false_iff, Bool.not_eq_false', decide_eq_true_eq, decide_eq_false_iff_not, beq_iff_eq, bne_iff_ne, beq_eq_false_iff_ne, bne_eq_false_iff_eq, Bool.true_and, ne_eq, Decidable.not_not, Int.not_lt, Int.not_le, Nat.not_lt, Nat.not_le, strB_nil, strB_nil', strB_nnil, strB_nnil'] at h3
      refine run_skip ?_
      refine run_seq ?_
      refine run_block ?_
      refine run_seq ?_
      refine run_seq ?_
      refine run_region (q_move .n (.t rfl) rfl <|
          q_callM (full := false) [(0, 0)] [] .n rfl .f en_62 (.cons (.t rfl) (.cons (.c rfl) .nil)) (.cons (.b (.mutp rfl)) (.cons (.b (.a (.same rfl))) .nil)) (c_spec_l00Src_one (gl00Src.mk x1.1 x1.2.1 x1.2.2.1) 5 (by (try dsimp only); (with_reducible (first | apply Lim.mono | apply Lim.out | apply LimA.mono)); (repeat (with_reducible (first | assumption | apply Lim.bif1 | apply Lim.among | apply Lim.text | apply Lim.one | apply Lim.pick | apply Lim.draw3 | apply Lim.mk))); omega)) ⟨rfl, trivial⟩ rfl rfl (fun h => Bool.noConfusion h) (fun h => Bool.noConfusion h) rfl <|
          Lex.nil) ?_
      refine run_cond (.t rfl) rfl (fun h4 => ?_) (fun h4 => ?_)
      · try simp only [Bool.and_eq_true, Bool.or_eq_true, Bool.not_eq_true', Bool.and_eq_false_iff, Bool.or_eq_false_iff, Bool.not_eq_false', decide_eq_true_eq, decide_eq_false_iff_not, beq_iff_eq, bne_iff_ne, beq_eq_false_iff_ne, bne_eq_false_iff_eq, Bool.true_and, ne_eq, Decidable.not_not, Int.not_lt, Int.not_le, Nat.not_lt, Nat.not_le, strB_nil, strB_nil', strB_nnil, strB_nnil'] at h4
        refine run_exit rfl ?_
        refine run_region (q_move .n (.t rfl) rfl <|
            q_add .n (.t rfl) (.c rfl) (fun _ => by omega) rfl <|
            q_assign .n (.t rfl) rfl <|
            Lex.nil) ?_
        exact run_again ((m_spec_l00Src_one (gl00Src.mk x1.1 x1.2.1 x1.2.2.1) 5).2.code, (m_spec_l00Src_one (gl00Src.mk x1.1 x1.2.1 x1.2.2.1) 5).2.at_, (m_spec_l00Src_one (gl00Src.mk x1.1 x1.2.1 x1.2.2.1) 5).2.seed, x1.2.2.2.1 + 1, x1.2.2.2.2) ⟨by (simp only [List.length_append, List.length_cons, List.length_nil, List.length_replicate, put_len] at * <;> omega), by assumption, by (simp only [List.length_append, List.length_cons, List.length_nil, List.length_replicate, put_len] at * <;> omega), by assumption, by (simp only [List.length_append, List.length_cons, List.length_nil, List.length_replicate, put_len] at * <;> omega), by (try dsimp only); (with_reducible (first | apply Lim.mono | apply Lim.out | apply LimA.mono)); (repeat (with_reducible (first | assumption | apply Lim.bif1 | apply Lim.among | apply Lim.text | apply Lim.one | apply Lim.pick | apply Lim.draw3 | apply Lim.mk))); omega⟩ (by (simp only [List.length_append, List.length_cons, List.length_nil, List.length_replicate, put_len] at * <;> omega)) (sub_of [] ⟨rfl, rfl, rfl, rfl, rfl, trivial⟩ ⟨rfl, rfl, rfl, rfl, rfl, trivial⟩ rfl)
      · try simp only [Bool.and_eq_true, Bool.or_eq_true, Bool.not_eq_true', Bool.and_eq_false_iff, Bool.or_eq_false_iff, Bool.not_eq_false', decide_eq_true_eq, decide_eq_false_iff_not, beq_iff_eq, bne_iff_ne, beq_eq_false_iff_ne, bne_eq_false_iff_eq, Bool.true_and, ne_eq, Decidable.not_not, Int.not_lt, Int.not_le, Nat.not_lt, Nat.not_le, strB_nil, strB_nil', strB_nnil, strB_nnil'] at h4
        refine run_skip ?_
        refine run_seq ?_
        refine run_region (q_move .n (.t rfl) rfl <|
            q_fld_ow .n (.t rfl) fo_26_0 rfl <|
            q_ld1_ow .n (.t rfl) rfl (.inr rfl) (fun _ => rfl) rfl ic_2 rfl <|
            q_rem .n (.t rfl) (.t rfl) (fun hg => by omega) rfl <|
            q_assign .n (.t rfl) rfl <|
            Lex.nil) ?_
        refine run_seq ?_
        refine run_seq ?_
        refine run_region (q_move .n (.t rfl) rfl <|
            q_callM (full := false) [(0, 0)] [] .n rfl .f en_62 (.cons (.t rfl) (.cons (.c rfl) .nil)) (.cons (.b (.mutp rfl)) (.cons (.b (.a (.same rfl))) .nil)) (c_spec_l00Src_one (m_spec_l00Src_one (gl00Src.mk x1.1 x1.2.1 x1.2.2.1) 5).2 2 (by (try dsimp only); (with_reducible (first | apply Lim.mono | apply Lim.out | apply LimA.mono)); (repeat (with_reducible (first | assumption | apply Lim.bif1 | apply Lim.among | apply Lim.text | apply Lim.one | apply Lim.pick | apply Lim.draw3 | apply Lim.mk))); omega)) ⟨rfl, trivial⟩ rfl rfl (fun h => Bool.noConfusion h) (fun h => Bool.noConfusion h) rfl <|
            Lex.nil) ?_
        refine run_join _ _ rfl (fun v5 : (List Int) × Int × Int × Int => LimA v5.1 v5.2.1 (600008 + 20 * x1.2.2.2.1)) (fun v5 => ⟨[(0, some (true, .op 0 0 0 0)), (2, some (true, .op 200 0 0 0)), (3, some (true, .os 201 ([([97] : List UInt8), ([98] : List UInt8), ([99] : List UInt8), ([100] : List UInt8), ([101] : List UInt8), ([102] : List UInt8), ([103] : List UInt8), ([104] : List UInt8)] : List (List UInt8)).length)), (4, some (true, .op 203 0 0 0)), (5, some (true, .int .i64 x1.2.2.2.1)), (6, some (true, .int .i64 v5.2.2.2))], [(0, some (.box 109 [.sl 1 (v5.1.map (V.int .u8)), .int .i64 v5.2.1, .int .u64 v5.2.2.1])), (200, some (.box 26 [.int .i64 0, .nls])), (201, some (.row 9 1 (([([97] : List UInt8), ([98] : List UInt8), ([99] : List UInt8), ([100] : List UInt8), ([101] : List UInt8), ([102] : List UInt8), ([103] : List UInt8), ([104] : List UInt8)] : List (List UInt8)).map V.str))), (202, some (.row 46 7 (x1.2.2.2.2.map gAirway.v))), (203, some (.box 26 [.int .i64 (IntKind.wrap .i64 (2 + (m_spec_l00Src_pick s_ 5).1)), .os 202 x1.2.2.2.2.length]))]⟩) (fun v5 hv13 => ?_) (fun j6 hj7 => ?_)
        · have e14 := hv13
          refine run_seq ?_
          refine run_draw fmo (q_move .n (.t rfl) rfl <|
              q_int .n (.t rfl) (.c rfl) rfl rfl <|
              q_move .n (.t rfl) rfl <|
              q_fld_ow .n (.t rfl) fo_26_0 rfl <|
              q_ld1_ow .n (.t rfl) rfl (.inr rfl) (fun _ => rfl) rfl ic_2 rfl <|
              q_int .n (.t rfl) (.c rfl) rfl rfl <|
              q_callM (full := false) [(0, 0)] [] .n rfl .f en_30 (.cons (.t rfl) (.cons (.t rfl) .nil)) (.cons (.b (.mutp rfl)) (.cons (.b (.a (.same rfl))) .nil)) (c_spec_l00Src_pick (gl00Src.mk v5.1 v5.2.1 v5.2.2.1) (IntKind.wrap .i64 ((IntKind.wrap .i64 (2 + (m_spec_l00Src_pick s_ 5).1)) - 1)) (by (try dsimp only); (with_reducible (first | apply Lim.mono | apply Lim.out | apply LimA.mono)); (repeat (with_reducible (first | assumption | apply Lim.bif1 | apply Lim.among | apply Lim.text | apply Lim.one | apply Lim.pick | apply Lim.draw3 | apply Lim.mk))); omega)) ⟨rfl, trivial⟩ rfl rfl (fun h => Bool.noConfusion h) (fun h => Bool.noConfusion h) rfl <|
              q_int .n (.t rfl) (.t rfl) rfl rfl <|
              q_fld_ow .n (.t rfl) fo_26_0 rfl <|
              q_ld1_ow .n (.t rfl) rfl (.inr rfl) (fun _ => rfl) rfl ic_2 rfl <|
              q_rem .n (.t rfl) (.t rfl) (fun hg => by omega) rfl <|
              q_assign .n (.t rfl) rfl <|
              Lex.nil) (by kernel_rfl) ?_
          refine run_seq ?_
          refine run_seq ?_
          refine run_region (q_move .n (.t rfl) rfl <|
              q_fld_ow .n (.t rfl) fo_26_0 rfl <|
              q_ld1_ow .n (.t rfl) rfl (.inr rfl) (fun _ => rfl) rfl ic_2 rfl <|
              q_int .n (.t rfl) (.c rfl) rfl rfl <|
              q_int .n (.t rfl) (.t rfl) rfl rfl <|
              q_move .n (.t rfl) rfl <|
              q_move (.t rfl rfl) (.t rfl) rfl <|
              q_callGM (full := false) (m0 := 0) (L := 0) (v := .bool (m_spec_l00Src_one (m_spec_l00Src_pick (gl00Src.mk v5.1 v5.2.1 v5.2.2.1) (IntKind.wrap .i64 ((IntKind.wrap .i64 (2 + (m_spec_l00Src_pick s_ 5).1)) - 1))).2 4).1) (o' := .box 109 [.sl 1 ((bif (decide (x1.2.2.2.1 < (IntKind.wrap .i64 ((IntKind.wrap .i64 (2 + (m_spec_l00Src_pick s_ 5).1)) - 1)))) then (m_spec_l00Src_one (m_spec_l00Src_pick (gl00Src.mk v5.1 v5.2.1 v5.2.2.1) (IntKind.wrap .i64 ((IntKind.wrap .i64 (2 + (m_spec_l00Src_pick s_ 5).1)) - 1))).2 4).2 else (m_spec_l00Src_pick (gl00Src.mk v5.1 v5.2.1 v5.2.2.1) (IntKind.wrap .i64 ((IntKind.wrap .i64 (2 + (m_spec_l00Src_pick s_ 5).1)) - 1))).2).code.map (V.int .u8)), .int .i64 (bif (decide (x1.2.2.2.1 < (IntKind.wrap .i64 ((IntKind.wrap .i64 (2 + (m_spec_l00Src_pick s_ 5).1)) - 1)))) then (m_spec_l00Src_one (m_spec_l00Src_pick (gl00Src.mk v5.1 v5.2.1 v5.2.2.1) (IntKind.wrap .i64 ((IntKind.wrap .i64 (2 + (m_spec_l00Src_pick s_ 5).1)) - 1))).2 4).2 else (m_spec_l00Src_pick (gl00Src.mk v5.1 v5.2.1 v5.2.2.1) (IntKind.wrap .i64 ((IntKind.wrap .i64 (2 + (m_spec_l00Src_pick s_ 5).1)) - 1))).2).at_, .int .u64 (bif (decide (x1.2.2.2.1 < (IntKind.wrap .i64 ((IntKind.wrap .i64 (2 + (m_spec_l00Src_pick s_ 5).1)) - 1)))) then (m_spec_l00Src_one (m_spec_l00Src_pick (gl00Src.mk v5.1 v5.2.1 v5.2.2.1) (IntKind.wrap .i64 ((IntKind.wrap .i64 (2 + (m_spec_l00Src_pick s_ 5).1)) - 1))).2 4).2 else (m_spec_l00Src_pick (gl00Src.mk v5.1 v5.2.1 v5.2.2.1) (IntKind.wrap .i64 ((IntKind.wrap .i64 (2 + (m_spec_l00Src_pick s_ 5).1)) - 1))).2).seed]) (.t rfl rfl) (fun hg => .f) en_62 (fun hg => (.cons (.u rfl (fun _ => id hg)) (.cons (.c rfl) .nil))) (.cons (.b (.mutp rfl)) (.cons (.b (.a (.same rfl))) .nil)) (fun hg => c_spec_l00Src_one (m_spec_l00Src_pick (gl00Src.mk v5.1 v5.2.1 v5.2.2.1) (IntKind.wrap .i64 ((IntKind.wrap .i64 (2 + (m_spec_l00Src_pick s_ 5).1)) - 1))).2 4 (by (try dsimp only); (with_reducible (first | apply Lim.mono | apply Lim.out | apply LimA.mono)); (repeat (with_reducible (first | assumption | apply Lim.bif1 | apply Lim.among | apply Lim.text | apply Lim.one | apply Lim.pick | apply Lim.draw3 | apply Lim.mk))); omega)) ⟨rfl, trivial⟩ rfl (fun h => Bool.noConfusion h) (fun h => Bool.noConfusion h) rfl (fun hg => by simp only [Bool.true_and] at hg; rw [hg]; exact ⟨rfl, rfl⟩) (fun hg => by simp only [Bool.true_and] at hg; rw [hg]; rfl) <|
              q_not (.t rfl rfl) (.u rfl id) rfl <|
              q_and .n (.t rfl) (.u rfl id) rfl <|
              Lex.nil) ?_
          refine run_join _ _ rfl (fun v9 : Int × Int => True) (fun v9 => ⟨[(0, some (true, .op 0 0 0 0)), (2, some (true, .op 200 0 0 0)), (3, some (true, .os 201 ([([97] : List UInt8), ([98] : List UInt8), ([99] : List UInt8), ([100] : List UInt8), ([101] : List UInt8), ([102] : List UInt8), ([103] : List UInt8), ([104] : List UInt8)] : List (List UInt8)).length)), (4, some (true, .op 203 0 0 0)), (5, some (true, .int .i64 x1.2.2.2.1)), (6, some (true, .int .i64 v9.1)), (7, some (true, .int .i64 v9.2))], [(0, some (.box 109 [.sl 1 ((bif (decide (x1.2.2.2.1 < (IntKind.wrap .i64 ((IntKind.wrap .i64 (2 + (m_spec_l00Src_pick s_ 5).1)) - 1)))) then (m_spec_l00Src_one (m_spec_l00Src_pick (gl00Src.mk v5.1 v5.2.1 v5.2.2.1) (IntKind.wrap .i64 ((IntKind.wrap .i64 (2 + (m_spec_l00Src_pick s_ 5).1)) - 1))).2 4).2 else (m_spec_l00Src_pick (gl00Src.mk v5.1 v5.2.1 v5.2.2.1) (IntKind.wrap .i64 ((IntKind.wrap .i64 (2 + (m_spec_l00Src_pick s_ 5).1)) - 1))).2).code.map (V.int .u8)), .int .i64 (bif (decide (x1.2.2.2.1 < (IntKind.wrap .i64 ((IntKind.wrap .i64 (2 + (m_spec_l00Src_pick s_ 5).1)) - 1)))) then (m_spec_l00Src_one (m_spec_l00Src_pick (gl00Src.mk v5.1 v5.2.1 v5.2.2.1) (IntKind.wrap .i64 ((IntKind.wrap .i64 (2 + (m_spec_l00Src_pick s_ 5).1)) - 1))).2 4).2 else (m_spec_l00Src_pick (gl00Src.mk v5.1 v5.2.1 v5.2.2.1) (IntKind.wrap .i64 ((IntKind.wrap .i64 (2 + (m_spec_l00Src_pick s_ 5).1)) - 1))).2).at_, .int .u64 (bif (decide (x1.2.2.2.1 < (IntKind.wrap .i64 ((IntKind.wrap .i64 (2 + (m_spec_l00Src_pick s_ 5).1)) - 1)))) then (m_spec_l00Src_one (m_spec_l00Src_pick (gl00Src.mk v5.1 v5.2.1 v5.2.2.1) (IntKind.wrap .i64 ((IntKind.wrap .i64 (2 + (m_spec_l00Src_pick s_ 5).1)) - 1))).2 4).2 else (m_spec_l00Src_pick (gl00Src.mk v5.1 v5.2.1 v5.2.2.1) (IntKind.wrap .i64 ((IntKind.wrap .i64 (2 + (m_spec_l00Src_pick s_ 5).1)) - 1))).2).seed])), (200, some (.box 26 [.int .i64 0, .nls])), (201, some (.row 9 1 (([([97] : List UInt8), ([98] : List UInt8), ([99] : List UInt8), ([100] : List UInt8), ([101] : List UInt8), ([102] : List UInt8), ([103] : List UInt8), ([104] : List UInt8)] : List (List UInt8)).map V.str))), (202, some (.row 46 7 (x1.2.2.2.2.map gAirway.v))), (203, some (.box 26 [.int .i64 (IntKind.wrap .i64 (2 + (m_spec_l00Src_pick s_ 5).1)), .os 202 x1.2.2.2.2.length]))]⟩) (fun v9 _ => ?_) (fun j10 hj11 => ?_)
          · refine run_draw fmo (q_fld_ow .n (.t rfl) fo_26_1 rfl <|
                q_ld1_ow .n (.t rfl) rfl (.inr rfl) (fun _ => rfl) rfl ic_24 rfl <|
                q_move .n (.t rfl) rfl <|
                q_move .n (.t rfl) rfl <|
                q_move .n (.t rfl) rfl <|
                q_idx_ow .n (.t rfl) (.t rfl) sl_53 (fun _ => by omega) rfl <|
                q_ld1_row .n (.t rfl) rfl (fun _ => by omega) rfl rfl rfl ic_9 rfl <|
                q_move .n (.t rfl) rfl <|
                q_move .n (.t rfl) rfl <|
                q_callM (full := false) [(0, 0)] [] .n rfl .f en_63 (.cons (.t rfl) (.cons (.t rfl) (.cons (.t rfl) (.cons (.t rfl) .nil)))) (.cons (.b (.mutp rfl)) (.cons (.b (.a (.same rfl))) (.cons (.b (.a (.same rfl))) (.cons (.b (.a (.same rfl))) .nil)))) (c_spec_l03DrawOk (bif (decide (x1.2.2.2.1 < (IntKind.wrap .i64 ((IntKind.wrap .i64 (2 + (m_spec_l00Src_pick s_ 5).1)) - 1)))) then (m_spec_l00Src_one (m_spec_l00Src_pick (gl00Src.mk v5.1 v5.2.1 v5.2.2.1) (IntKind.wrap .i64 ((IntKind.wrap .i64 (2 + (m_spec_l00Src_pick s_ 5).1)) - 1))).2 4).2 else (m_spec_l00Src_pick (gl00Src.mk v5.1 v5.2.1 v5.2.2.1) (IntKind.wrap .i64 ((IntKind.wrap .i64 (2 + (m_spec_l00Src_pick s_ 5).1)) - 1))).2) (at' ([([97] : List UInt8), ([98] : List UInt8), ([99] : List UInt8), ([100] : List UInt8), ([101] : List UInt8), ([102] : List UInt8), ([103] : List UInt8), ([104] : List UInt8)] : List (List UInt8)) x1.2.2.2.1) v9.1 v9.2 (by (try dsimp only); (with_reducible (first | apply Lim.mono | apply Lim.out | apply LimA.mono)); (repeat (with_reducible (first | assumption | apply Lim.bif1 | apply Lim.among | apply Lim.text | apply Lim.one | apply Lim.pick | apply Lim.draw3 | apply Lim.mk))); omega)) ⟨rfl, trivial⟩ rfl rfl (fun h => Bool.noConfusion h) (fun h => Bool.noConfusion h) rfl <|
                q_bslicem ([(m_spec_l03DrawOk (bif (decide (x1.2.2.2.1 < (IntKind.wrap .i64 ((IntKind.wrap .i64 (2 + (m_spec_l00Src_pick s_ 5).1)) - 1)))) then (m_spec_l00Src_one (m_spec_l00Src_pick (gl00Src.mk v5.1 v5.2.1 v5.2.2.1) (IntKind.wrap .i64 ((IntKind.wrap .i64 (2 + (m_spec_l00Src_pick s_ 5).1)) - 1))).2 4).2 else (m_spec_l00Src_pick (gl00Src.mk v5.1 v5.2.1 v5.2.2.1) (IntKind.wrap .i64 ((IntKind.wrap .i64 (2 + (m_spec_l00Src_pick s_ 5).1)) - 1))).2) (at' ([([97] : List UInt8), ([98] : List UInt8), ([99] : List UInt8), ([100] : List UInt8), ([101] : List UInt8), ([102] : List UInt8), ([103] : List UInt8), ([104] : List UInt8)] : List (List UInt8)) x1.2.2.2.1) v9.1 v9.2).1] : List gAirway) (f := gAirway.v) (l := 204) .n rfl rfl (.cons (.t rfl) .nil) rfl si_24 zv_46 rfl rfl rfl <|
                q_appm (xs := x1.2.2.2.2) (ys := ([(m_spec_l03DrawOk (bif (decide (x1.2.2.2.1 < (IntKind.wrap .i64 ((IntKind.wrap .i64 (2 + (m_spec_l00Src_pick s_ 5).1)) - 1)))) then (m_spec_l00Src_one (m_spec_l00Src_pick (gl00Src.mk v5.1 v5.2.1 v5.2.2.1) (IntKind.wrap .i64 ((IntKind.wrap .i64 (2 + (m_spec_l00Src_pick s_ 5).1)) - 1))).2 4).2 else (m_spec_l00Src_pick (gl00Src.mk v5.1 v5.2.1 v5.2.2.1) (IntKind.wrap .i64 ((IntKind.wrap .i64 (2 + (m_spec_l00Src_pick s_ 5).1)) - 1))).2) (at' ([([97] : List UInt8), ([98] : List UInt8), ([99] : List UInt8), ([100] : List UInt8), ([101] : List UInt8), ([102] : List UInt8), ([103] : List UInt8), ([104] : List UInt8)] : List (List UInt8)) x1.2.2.2.1) v9.1 v9.2).1] : List gAirway)) (f := gAirway.v) (l := 205) .n rfl (.ow (.t rfl) rfl (take_all (by simp only [len_map, put_len] <;> rfl)) (by simp only [len_map, put_len] <;> rfl)) (.ow (.t rfl) rfl (take_all (by simp only [len_map, put_len] <;> rfl)) (by simp only [len_map, put_len] <;> rfl)) si_24 zv_46 rfl (by (simp only [List.length_append, List.length_cons, List.length_nil, List.length_replicate, put_len] at * <;> omega)) rfl rfl <|
                q_fld_ow .n (.t rfl) fo_26_1 rfl <|
                q_st_boxm [.int .i64 (IntKind.wrap .i64 (2 + (m_spec_l00Src_pick s_ 5).1)), .os 205 (x1.2.2.2.2 ++ ([(m_spec_l03DrawOk (bif (decide (x1.2.2.2.1 < (IntKind.wrap .i64 ((IntKind.wrap .i64 (2 + (m_spec_l00Src_pick s_ 5).1)) - 1)))) then (m_spec_l00Src_one (m_spec_l00Src_pick (gl00Src.mk v5.1 v5.2.1 v5.2.2.1) (IntKind.wrap .i64 ((IntKind.wrap .i64 (2 + (m_spec_l00Src_pick s_ 5).1)) - 1))).2 4).2 else (m_spec_l00Src_pick (gl00Src.mk v5.1 v5.2.1 v5.2.2.1) (IntKind.wrap .i64 ((IntKind.wrap .i64 (2 + (m_spec_l00Src_pick s_ 5).1)) - 1))).2) (at' ([([97] : List UInt8), ([98] : List UInt8), ([99] : List UInt8), ([100] : List UInt8), ([101] : List UInt8), ([102] : List UInt8), ([103] : List UInt8), ([104] : List UInt8)] : List (List UInt8)) x1.2.2.2.1) v9.1 v9.2).1] : List gAirway)).length] .n rfl (.t rfl) (.t rfl) rfl ts_24 rfl rfl <|
                Lex.nil) (by kernel_rfl) ?_
            refine run_endB ?_
            refine run_region (q_move .n (.t rfl) rfl <|
                q_add .n (.t rfl) (.c rfl) (fun _ => by omega) rfl <|
                q_assign .n (.t rfl) rfl <|
                Lex.nil) ?_
            exact run_again ((m_spec_l03DrawOk (bif (decide (x1.2.2.2.1 < (IntKind.wrap .i64 ((IntKind.wrap .i64 (2 + (m_spec_l00Src_pick s_ 5).1)) - 1)))) then (m_spec_l00Src_one (m_spec_l00Src_pick (gl00Src.mk v5.1 v5.2.1 v5.2.2.1) (IntKind.wrap .i64 ((IntKind.wrap .i64 (2 + (m_spec_l00Src_pick s_ 5).1)) - 1))).2 4).2 else (m_spec_l00Src_pick (gl00Src.mk v5.1 v5.2.1 v5.2.2.1) (IntKind.wrap .i64 ((IntKind.wrap .i64 (2 + (m_spec_l00Src_pick s_ 5).1)) - 1))).2) (at' ([([97] : List UInt8), ([98] : List UInt8), ([99] : List UInt8), ([100] : List UInt8), ([101] : List UInt8), ([102] : List UInt8), ([103] : List UInt8), ([104] : List UInt8)] : List (List UInt8)) x1.2.2.2.1) v9.1 v9.2).2.code, (m_spec_l03DrawOk (bif (decide (x1.2.2.2.1 < (IntKind.wrap .i64 ((IntKind.wrap .i64 (2 + (m_spec_l00Src_pick s_ 5).1)) - 1)))) then (m_spec_l00Src_one (m_spec_l00Src_pick (gl00Src.mk v5.1 v5.2.1 v5.2.2.1) (IntKind.wrap .i64 ((IntKind.wrap .i64 (2 + (m_spec_l00Src_pick s_ 5).1)) - 1))).2 4).2 else (m_spec_l00Src_pick (gl00Src.mk v5.1 v5.2.1 v5.2.2.1) (IntKind.wrap .i64 ((IntKind.wrap .i64 (2 + (m_spec_l00Src_pick s_ 5).1)) - 1))).2) (at' ([([97] : List UInt8), ([98] : List UInt8), ([99] : List UInt8), ([100] : List UInt8), ([101] : List UInt8), ([102] : List UInt8), ([103] : List UInt8), ([104] : List UInt8)] : List (List UInt8)) x1.2.2.2.1) v9.1 v9.2).2.at_, (m_spec_l03DrawOk (bif (decide (x1.2.2.2.1 < (IntKind.wrap .i64 ((IntKind.wrap .i64 (2 + (m_spec_l00Src_pick s_ 5).1)) - 1)))) then (m_spec_l00Src_one (m_spec_l00Src_pick (gl00Src.mk v5.1 v5.2.1 v5.2.2.1) (IntKind.wrap .i64 ((IntKind.wrap .i64 (2 + (m_spec_l00Src_pick s_ 5).1)) - 1))).2 4).2 else (m_spec_l00Src_pick (gl00Src.mk v5.1 v5.2.1 v5.2.2.1) (IntKind.wrap .i64 ((IntKind.wrap .i64 (2 + (m_spec_l00Src_pick s_ 5).1)) - 1))).2) (at' ([([97] : List UInt8), ([98] : List UInt8), ([99] : List UInt8), ([100] : List UInt8), ([101] : List UInt8), ([102] : List UInt8), ([103] : List UInt8), ([104] : List UInt8)] : List (List UInt8)) x1.2.2.2.1) v9.1 v9.2).2.seed, x1.2.2.2.1 + 1, x1.2.2.2.2 ++ ([(m_spec_l03DrawOk (bif (decide (x1.2.2.2.1 < (IntKind.wrap .i64 ((IntKind.wrap .i64 (2 + (m_spec_l00Src_pick s_ 5).1)) - 1)))) then (m_spec_l00Src_one (m_spec_l00Src_pick (gl00Src.mk v5.1 v5.2.1 v5.2.2.1) (IntKind.wrap .i64 ((IntKind.wrap .i64 (2 + (m_spec_l00Src_pick s_ 5).1)) - 1))).2 4).2 else (m_spec_l00Src_pick (gl00Src.mk v5.1 v5.2.1 v5.2.2.1) (IntKind.wrap .i64 ((IntKind.wrap .i64 (2 + (m_spec_l00Src_pick s_ 5).1)) - 1))).2) (at' ([([97] : List UInt8), ([98] : List UInt8), ([99] : List UInt8), ([100] : List UInt8), ([101] : List UInt8), ([102] : List UInt8), ([103] : List UInt8), ([104] : List UInt8)] : List (List UInt8)) x1.2.2.2.1) v9.1 v9.2).1] : List gAirway)) ⟨by (simp only [List.length_append, List.length_cons, List.length_nil, List.length_replicate, put_len] at * <;> omega), by assumption, by (simp only [List.length_append, List.length_cons, List.length_nil, List.length_replicate, put_len] at * <;> omega), by assumption, by (simp only [List.length_append, List.length_cons, List.length_nil, List.length_replicate, put_len] at * <;> omega), by (try dsimp only); (with_reducible (first | apply Lim.mono | apply Lim.out | apply LimA.mono)); (repeat (with_reducible (first | assumption | apply Lim.bif1 | apply Lim.among | apply Lim.text | apply Lim.one | apply Lim.pick | apply Lim.draw3 | apply Lim.mk))); omega⟩ (by (simp only [List.length_append, List.length_cons, List.length_nil, List.length_replicate, put_len] at * <;> omega)) (sub_of [(202, 205)] ⟨rfl, rfl, rfl, rfl, rfl, trivial⟩ ⟨rfl, rfl, rfl, rfl, rfl, trivial⟩ rfl)
          · refine run_cond (.t rfl) rfl (fun h12 => ?_) (fun h12 => ?_)
            · try simp only [Bool.and_eq_true, Bool.or_eq_true, Bool.not_eq_true', Bool.and_eq_false_iff, Bool.or_eq_false_iff, Bool.not_eq_false', decide_eq_true_eq, decide_eq_false_iff_not, beq_iff_eq, bne_iff_ne, beq_eq_false_iff_ne, bne_eq_false_iff_eq, Bool.true_and, ne_eq, Decidable.not_not, Int.not_lt, Int.not_le, Nat.not_lt, Nat.not_le, strB_nil, strB_nil', strB_nnil, strB_nnil'] at h12
              refine run_seq ?_
              refine run_region (q_move .n (.t rfl) rfl <|
                  q_assign .n (.t rfl) rfl <|
                  Lex.nil) ?_
              refine run_region (q_move .n (.t rfl) rfl <|
                  q_add .n (.t rfl) (.c rfl) (fun _ => by omega) rfl <|
                  q_assign .n (.t rfl) rfl <|
                  Lex.nil) ?_
              exact run_cont hj11 (x1.2.2.2.1, x1.2.2.2.1 + 1) trivial (sub_of [] ⟨rfl, rfl, rfl, rfl, rfl, rfl, rfl, trivial⟩ ⟨rfl, rfl, rfl, rfl, rfl, trivial⟩ rfl)
            · try simp only [Bool.and_eq_true, Bool.or_eq_true, Bool.not_eq_true', Bool.and_eq_false_iff, Bool.or_eq_false_iff, Bool.not_eq_false', decide_eq_true_eq, decide_eq_false_iff_not, beq_iff_eq, bne_iff_ne, beq_eq_false_iff_ne, bne_eq_false_iff_eq, Bool.true_and, ne_eq, Decidable.not_not, Int.not_lt, Int.not_le, Nat.not_lt, Nat.not_le, strB_nil, strB_nil', strB_nnil, strB_nnil'] at h12
              refine run_skip ?_
              exact run_cont hj11 (v5.2.2.2, Int.tmod (IntKind.wrap .i64 ((IntKind.wrap .i64 (v5.2.2.2 + 1)) + (m_spec_l00Src_pick (gl00Src.mk v5.1 v5.2.1 v5.2.2.1) (IntKind.wrap .i64 ((IntKind.wrap .i64 (2 + (m_spec_l00Src_pick s_ 5).1)) - 1))).1)) (IntKind.wrap .i64 (2 + (m_spec_l00Src_pick s_ 5).1))) trivial (sub_of [] ⟨rfl, rfl, rfl, rfl, rfl, rfl, rfl, trivial⟩ ⟨rfl, rfl, rfl, rfl, rfl, trivial⟩ rfl)
        · refine run_cond (.t rfl) rfl (fun h8 => ?_) (fun h8 => ?_)
          · try simp only [Bool.and_eq_true, Bool.or_eq_true, Bool.not_eq_true', Bool.and_eq_false_iff, Bool.or_eq_false_iff, Bool.not_eq_false', decide_eq_true_eq, decide_eq_false_iff_not, beq_iff_eq, bne_iff_ne, beq_eq_false_iff_ne, bne_eq_false_iff_eq, Bool.true_and, ne_eq, Decidable.not_not, Int.not_lt, Int.not_le, Nat.not_lt, Nat.not_le, strB_nil, strB_nil', strB_nnil, strB_nnil'] at h8
            refine run_region (q_move .n (.t rfl) rfl <|
                q_fld_ow .n (.t rfl) fo_26_0 rfl <|
                q_ld1_ow .n (.t rfl) rfl (.inr rfl) (fun _ => rfl) rfl ic_2 rfl <|
                q_callM (full := false) [(0, 0)] [] .n rfl .f en_30 (.cons (.t rfl) (.cons (.t rfl) .nil)) (.cons (.b (.mutp rfl)) (.cons (.b (.a (.same rfl))) .nil)) (c_spec_l00Src_pick (m_spec_l00Src_one (m_spec_l00Src_one (gl00Src.mk x1.1 x1.2.1 x1.2.2.1) 5).2 2).2 (IntKind.wrap .i64 (2 + (m_spec_l00Src_pick s_ 5).1)) (by (try dsimp only); (with_reducible (first | apply Lim.mono | apply Lim.out | apply LimA.mono)); (repeat (with_reducible (first | assumption | apply Lim.bif1 | apply Lim.among | apply Lim.text | apply Lim.one | apply Lim.pick | apply Lim.draw3 | apply Lim.mk))); omega)) ⟨rfl, trivial⟩ rfl rfl (fun h => Bool.noConfusion h) (fun h => Bool.noConfusion h) rfl <|
                q_assign .n (.t rfl) rfl <|
                Lex.nil) ?_
            exact run_cont hj7 ((m_spec_l00Src_pick (m_spec_l00Src_one (m_spec_l00Src_one (gl00Src.mk x1.1 x1.2.1 x1.2.2.1) 5).2 2).2 (IntKind.wrap .i64 (2 + (m_spec_l00Src_pick s_ 5).1))).2.code, (m_spec_l00Src_pick (m_spec_l00Src_one (m_spec_l00Src_one (gl00Src.mk x1.1 x1.2.1 x1.2.2.1) 5).2 2).2 (IntKind.wrap .i64 (2 + (m_spec_l00Src_pick s_ 5).1))).2.at_, (m_spec_l00Src_pick (m_spec_l00Src_one (m_spec_l00Src_one (gl00Src.mk x1.1 x1.2.1 x1.2.2.1) 5).2 2).2 (IntKind.wrap .i64 (2 + (m_spec_l00Src_pick s_ 5).1))).2.seed, (m_spec_l00Src_pick (m_spec_l00Src_one (m_spec_l00Src_one (gl00Src.mk x1.1 x1.2.1 x1.2.2.1) 5).2 2).2 (IntKind.wrap .i64 (2 + (m_spec_l00Src_pick s_ 5).1))).1) (by (try dsimp only); (with_reducible (first | apply Lim.mono | apply Lim.out | apply LimA.mono)); (repeat (with_reducible (first | assumption | apply Lim.bif1 | apply Lim.among | apply Lim.text | apply Lim.one | apply Lim.pick | apply Lim.draw3 | apply Lim.mk))); omega) (sub_of [] ⟨rfl, rfl, rfl, rfl, rfl, rfl, trivial⟩ ⟨rfl, rfl, rfl, rfl, rfl, trivial⟩ rfl)
          · try simp only [Bool.and_eq_true, Bool.or_eq_true, Bool.not_eq_true', Bool.and_eq_false_iff, Bool.or_eq_false_iff, Bool.not_eq_false', decide_eq_true_eq, decide_eq_false_iff_not, beq_iff_eq, bne_iff_ne, beq_eq_false_iff_ne, bne_eq_false_iff_eq, Bool.true_and, ne_eq, Decidable.not_not, Int.not_lt, Int.not_le, Nat.not_lt, Nat.not_le, strB_nil, strB_nil', strB_nnil, strB_nnil'] at h8
            refine run_skip ?_
            exact run_cont hj7 ((m_spec_l00Src_one (m_spec_l00Src_one (gl00Src.mk x1.1 x1.2.1 x1.2.2.1) 5).2 2).2.code, (m_spec_l00Src_one (m_spec_l00Src_one (gl00Src.mk x1.1 x1.2.1 x1.2.2.1) 5).2 2).2.at_, (m_spec_l00Src_one (m_spec_l00Src_one (gl00Src.mk x1.1 x1.2.1 x1.2.2.1) 5).2 2).2.seed, Int.tmod x1.2.2.2.1 (IntKind.wrap .i64 (2 + (m_spec_l00Src_pick s_ 5).1))) (by (try dsimp only); (with_reducible (first | apply Lim.mono | apply Lim.out | apply LimA.mono)); (repeat (with_reducible (first | assumption | apply Lim.bif1 | apply Lim.among | apply Lim.text | apply Lim.one | apply Lim.pick | apply Lim.draw3 | apply Lim.mk))); omega) (sub_of [] ⟨rfl, rfl, rfl, rfl, rfl, rfl, trivial⟩ ⟨rfl, rfl, rfl, rfl, rfl, trivial⟩ rfl)
    · try simp only [Bool.and_eq_true, Bool.or_eq_true, Bool.not_eq_true', Bool.and_eq_false_iff, Bool.or_eq_false_iff, Bool.not_eq_false', decide_eq_true_eq, decide_eq_false_iff_not, beq_iff_eq, bne_iff_ne, beq_eq_false_iff_ne, bne_eq_false_iff_eq, Bool.true_and, ne_eq, Decidable.not_not, Int.not_lt, Int.not_le, Nat.not_lt, Nat.not_le, strB_nil, strB_nil', strB_nnil, strB_nnil'] at h3
      refine run_exit rfl ?_
      exact run_cont hk1 (x1.1, x1.2.1, x1.2.2.1, x1.2.2.2.1, x1.2.2.2.2) ⟨by omega, by omega, by omega, by omega, by omega, by (try dsimp only); (with_reducible (first | apply Lim.mono | apply Lim.out | apply LimA.mono)); (repeat (with_reducible (first | assumption | apply Lim.bif1 | apply Lim.among | apply Lim.text | apply Lim.one | apply Lim.pick | apply Lim.draw3 | apply Lim.mk))); omega, by omega⟩ (sub_of [] ⟨rfl, rfl, trivial⟩ ⟨rfl, rfl, rfl, rfl, trivial⟩ rfl)

/-! ### spec_R8Mine -/
theorem c_spec_R8Mine (code : List Int) (hp1 : ∀ y ∈ code, 0 ≤ y ∧ y ≤ 255) : Con Try.prog 6 [.sl 1 (code.map (V.int .u8))] [] (.st [.int .i64 (m_spec_R8Mine code).Junctions, .os 100 (m_spec_R8Mine code).Airways.length]) ([(100, some (.row 46 7 ((m_spec_R8Mine code).Airways.map gAirway.v)))]) := by
  refine con_intro (out := fun r : gMine => ((.st [.int .i64 r.Junctions, .os 100 r.Airways.length] : V), ([(100, some (.row 46 7 (r.Airways.map gAirway.v)))] : List (Nat × Option O)))) (r := (m_spec_R8Mine code)) Try.func6 rfl Try.ntmps6 rfl ?_
  have hF := Lim.from hp1
  refine run_fact (t := 0) rfl fun hl => ?_
  have l1 := hl; clear hl; simp only [List.length_map] at l1
  refine run_seq ?_
  refine run_region (q_alloc (l := 200) .n rfl zv_26 rfl rfl <|
      Lex.nil) ?_
  refine run_seq ?_
  refine run_region (q_move .n (.t rfl) rfl <|
      q_callM (full := false) [] [(100, 201)] .n rfl .f en_26 (.cons (.t rfl) .nil) (.cons (.b (.a (.same rfl))) .nil) (c_spec_l00From code) trivial rfl rfl (fun h => Bool.noConfusion h) (fun h => Bool.noConfusion h) rfl <|
      q_assign .n (.t rfl) rfl <|
      Lex.nil) ?_
  refine run_seq ?_
  refine run_region (q_move .n (.t rfl) rfl <|
      q_callM (full := false) [(0, 201)] [(100, 202)] .n rfl .f en_27 (.cons (.t rfl) .nil) (.cons (.b (.mutp rfl)) .nil) (c_spec_l04DrawOk (m_spec_l00From code) (by (try dsimp only); (with_reducible (first | apply Lim.mono | apply Lim.out | apply LimA.mono)); (repeat (with_reducible (first | assumption | apply Lim.from | apply Lim.mk))); omega)) ⟨rfl, trivial⟩ rfl rfl (fun h => Bool.noConfusion h) (fun h => Bool.noConfusion h) rfl <|
      q_st_boxm [.int .i64 (m_spec_l04DrawOk (m_spec_l00From code)).1.Junctions, .os 202 (m_spec_l04DrawOk (m_spec_l00From code)).1.Airways.length] .n rfl (.t rfl) (.t rfl) rfl ts_26 rfl rfl <|
      Lex.nil) ?_
  exact run_ret [(100, 202)] (.cons (.cN rfl rfl ag_26 rfl rfl) .nil) (by first | rfl | (simp only [put_len]; rfl)) ⟨rfl, trivial⟩ rfl

/-! ### spec_l00Min -/
theorem c_spec_l00Min (a : Int) (b : Int) : Con Try.prog 127 [.int .i64 a, .int .i64 b] [] (.int .i64 (m_spec_l00Min a b)) ([]) := by
  refine con_intro (out := fun r : Int => ((.int .i64 r : V), ([] : List (Nat × Option O)))) (r := (m_spec_l00Min a b)) Try.func127 rfl Try.ntmps127 rfl ?_
  refine run_seq ?_
  refine run_region (q_assign .n (.c rfl) rfl <|
      Lex.nil) ?_
  refine run_seq ?_
  refine run_seq ?_
  refine run_region (q_move .n (.t rfl) rfl <|
      q_move .n (.t rfl) rfl <|
      q_int .n (.t rfl) (.t rfl) rfl rfl <|
      Lex.nil) ?_
  refine run_cond (.t rfl) rfl (fun h1 => ?_) (fun h1 => ?_)
  · try simp only [Bool.and_eq_true, Bool.or_eq_true, Bool.not_eq_true', Bool.and_eq_false_iff, Bool.or_eq_false_iff, Bool.not_eq_false', decide_eq_true_eq, decide_eq_false_iff_not, beq_iff_eq, bne_iff_ne, beq_eq_false_iff_ne, bne_eq_false_iff_eq, Bool.true_and, ne_eq, Decidable.not_not, Int.not_lt, Int.not_le, Nat.not_lt, Nat.not_le, strB_nil, strB_nil', strB_nnil, strB_nnil'] at h1
    refine run_seq ?_
    refine run_region (q_move .n (.t rfl) rfl <|
        q_assign .n (.t rfl) rfl <|
        Lex.nil) ?_
    exact run_ret [] (.cons (.t rfl rfl) .nil) rfl trivial rfl
  · try simp only [Bool.and_eq_true, Bool.or_eq_true, Bool.not_eq_true', Bool.and_eq_false_iff, Bool.or_eq_false_iff, Bool.not_eq_false', decide_eq_true_eq, decide_eq_false_iff_not, beq_iff_eq, bne_iff_ne, beq_eq_false_iff_ne, bne_eq_false_iff_eq, Bool.true_and, ne_eq, Decidable.not_not, Int.not_lt, Int.not_le, Nat.not_lt, Nat.not_le, strB_nil, strB_nil', strB_nnil, strB_nnil'] at h1
    refine run_skip ?_
    refine run_seq ?_
    refine run_region (q_move .n (.t rfl) rfl <|
        q_assign .n (.t rfl) rfl <|
        Lex.nil) ?_
    exact run_ret [] (.cons (.t rfl rfl) .nil) rfl trivial rfl

/-! ### spec_l00Max -/
theorem c_spec_l00Max (a : Int) (b : Int) : Con Try.prog 128 [.int .i64 a, .int .i64 b] [] (.int .i64 (m_spec_l00Max a b)) ([]) := by
  refine con_intro (out := fun r : Int => ((.int .i64 r : V), ([] : List (Nat × Option O)))) (r := (m_spec_l00Max a b)) Try.func128 rfl Try.ntmps128 rfl ?_
  refine run_seq ?_
  refine run_region (q_assign .n (.c rfl) rfl <|
      Lex.nil) ?_
  refine run_seq ?_
  refine run_seq ?_
  refine run_region (q_move .n (.t rfl) rfl <|
      q_move .n (.t rfl) rfl <|
      q_int .n (.t rfl) (.t rfl) rfl rfl <|
      Lex.nil) ?_
  refine run_cond (.t rfl) rfl (fun h1 => ?_) (fun h1 => ?_)
  · try simp only [Bool.and_eq_true, Bool.or_eq_true, Bool.not_eq_true', Bool.and_eq_false_iff, Bool.or_eq_false_iff, Bool.not_eq_false', decide_eq_true_eq, decide_eq_false_iff_not, beq_iff_eq, bne_iff_ne, beq_eq_false_iff_ne, bne_eq_false_iff_eq, Bool.true_and, ne_eq, Decidable.not_not, Int.not_lt, Int.not_le, Nat.not_lt, Nat.not_le, strB_nil, strB_nil', strB_nnil, strB_nnil'] at h1
    refine run_seq ?_
    refine run_region (q_move .n (.t rfl) rfl <|
        q_assign .n (.t rfl) rfl <|
        Lex.nil) ?_
    exact run_ret [] (.cons (.t rfl rfl) .nil) rfl trivial rfl
  · try simp only [Bool.and_eq_true, Bool.or_eq_true, Bool.not_eq_true', Bool.and_eq_false_iff, Bool.or_eq_false_iff, Bool.not_eq_false', decide_eq_true_eq, decide_eq_false_iff_not, beq_iff_eq, bne_iff_ne, beq_eq_false_iff_ne, bne_eq_false_iff_eq, Bool.true_and, ne_eq, Decidable.not_not, Int.not_lt, Int.not_le, Nat.not_lt, Nat.not_le, strB_nil, strB_nil', strB_nnil, strB_nnil'] at h1
    refine run_skip ?_
    refine run_seq ?_
    refine run_region (q_move .n (.t rfl) rfl <|
        q_assign .n (.t rfl) rfl <|
        Lex.nil) ?_
    exact run_ret [] (.cons (.t rfl rfl) .nil) rfl trivial rfl

/-! ### spec_l04Parts -/
theorem c_spec_l04Parts (m_ : gMine) (list : List Int) (hp1 : MineIn m_) (hp2 : ListIn m_ list) : Con Try.prog 108 [.rp [.int .i64 m_.Junctions, .sl 7 (m_.Airways.map gAirway.v)], .sl 1 (list.map (V.int .i64))] [] (.os 100 (m_spec_l04Parts m_ list).length) ([(100, some (.row 2 1 ((m_spec_l04Parts m_ list).map (V.int .i64))))]) := by
  refine con_intro (out := fun r : (List Int) => ((.os 100 r.length : V), ([(100, some (.row 2 1 (r.map (V.int .i64))))] : List (Nat × Option O)))) (r := (m_spec_l04Parts m_ list)) Try.func108 rfl Try.ntmps108 rfl ?_
  have hJ := hp1.1
  have hJ1 := hp1.1
  have hA1 := hp1.2.1
  refine run_factP (t := 0) 1 rfl rfl fun hl => ?_
  have l1 := hl; clear hl; simp only [List.length_map] at l1
  refine run_fact (t := 1) rfl fun hl => ?_
  have l2 := hl; clear hl; simp only [List.length_map] at l2
  refine run_seq ?_
  refine run_region (q_assign .n (.c rfl) rfl <|
      Lex.nil) ?_
  refine run_seq ?_
  refine run_region (q_bslicem ([] : List Int) (f := V.int .i64) (l := 200) .n rfl rfl .nil rfl si_28 zv_2 rfl rfl rfl <|
      q_assign .n (.t rfl) rfl <|
      Lex.nil) ?_
  refine run_seq ?_
  refine run_seq ?_
  refine run_region (q_assign .n (.c rfl) rfl <|
      Lex.nil) ?_
  refine run_block ?_
  refine run_LOOP (m_spec_l04Parts_b1 m_ list) _ _ _ rfl (fun (x1 : (List Int) × Int) => 0 ≤ x1.2 ∧ x1.2 ≤ m_.Junctions ∧ (x1.1.length : Int) + 0 ≤ x1.2 + (([] : List Int).length : Int) ∧ (x1.1.length : Int) = x1.2) (fun x1 => 0 ≤ x1.2 ∧ x1.2 ≤ m_.Junctions ∧ (x1.1.length : Int) + 0 ≤ x1.2 + (([] : List Int).length : Int) ∧ (x1.1.length : Int) = x1.2 ∧ m_.Junctions ≤ x1.2) (fun x1 => (m_.Junctions - x1.2 : Int).toNat) (fun x1 => ⟨[(0, some (true, .rp [.int .i64 m_.Junctions, .sl 7 (m_.Airways.map gAirway.v)])), (1, some (true, .sl 1 (list.map (V.int .i64)))), (5, some (true, .os 200 x1.1.length)), (6, some (true, .int .i64 x1.2))], [(200, some (.row 2 1 (x1.1.map (V.int .i64))))]⟩) (fun x1 => ⟨[(0, some (true, .rp [.int .i64 m_.Junctions, .sl 7 (m_.Airways.map gAirway.v)])), (1, some (true, .sl 1 (list.map (V.int .i64)))), (5, some (true, .os 200 x1.1.length))], [(200, some (.row 2 1 (x1.1.map (V.int .i64))))]⟩) ⟨by omega, by omega, by (simp only [List.length_append, List.length_cons, List.length_nil, List.length_replicate, put_len] at * <;> omega), by (simp only [List.length_append, List.length_cons, List.length_nil, List.length_replicate, put_len] at * <;> omega)⟩ (by omega) (sub_of [] ⟨rfl, rfl, rfl, rfl, trivial⟩ ⟨rfl, trivial⟩ rfl) ?_ ?_
  · intro x1 i6
    obtain ⟨e28, e29, e30, e31, e32⟩ := i6
    try dsimp only at *
    refine run_seq ?_
    refine run_seq ?_
    refine run_region (q_assign .n (.c rfl) rfl <|
        Lex.nil) ?_
    refine run_block ?_
    refine run_LOOP (m_spec_l04Parts_b2 m_ list x1) _ _ _ rfl (fun (x2 : (List Int) × Int) => 0 ≤ x2.2 ∧ x2.2 ≤ (list.length : Int) ∧ (x2.1.length : Int) = m_.Junctions) (fun x2 => 0 ≤ x2.2 ∧ x2.2 ≤ (list.length : Int) ∧ (x2.1.length : Int) = m_.Junctions ∧ (list.length : Int) ≤ x2.2) (fun x2 => ((list.length : Int) - x2.2 : Int).toNat) (fun x2 => ⟨[(0, some (true, .rp [.int .i64 m_.Junctions, .sl 7 (m_.Airways.map gAirway.v)])), (1, some (true, .sl 1 (list.map (V.int .i64)))), (5, some (true, .os 200 x2.1.length)), (7, some (true, .int .i64 x2.2))], [(200, some (.row 2 1 (x2.1.map (V.int .i64))))]⟩) (fun x2 => ⟨[(5, some (true, .os 200 x2.1.length))], [(200, some (.row 2 1 (x2.1.map (V.int .i64))))]⟩) ⟨by omega, by omega, by (simp only [List.length_append, List.length_cons, List.length_nil, List.length_replicate, put_len] at * <;> omega)⟩ (by omega) (sub_of [] ⟨rfl, rfl, rfl, rfl, trivial⟩ ⟨rfl, trivial⟩ rfl) ?_ ?_
    · intro x2 i20
      obtain ⟨e21, e22, e23, e24⟩ := i20
      try dsimp only at *
      refine run_seq ?_
      refine run_region (q_move .n (.t rfl) rfl <|
          q_assign .n (.t rfl) rfl <|
          Lex.nil) ?_
      exact run_ret [(100, 200)] (.cons (.t rfl rfl) .nil) (by first | rfl | (simp only [put_len]; rfl)) ⟨rfl, trivial⟩ rfl
    · intro rec2 k2 hk7 x2 i8
      obtain ⟨e25, e26, e27⟩ := i8
      try dsimp only at *
      refine run_seq ?_
      refine run_seq ?_
      refine run_region (q_move .n (.t rfl) rfl <|
          q_move .n (.t rfl) rfl <|
          q_len .n (.t rfl) rfl len_map ss_28 rfl <|
          q_int .n (.t rfl) (.t rfl) rfl rfl <|
          Lex.nil) ?_
      refine run_cond (.t rfl) rfl (fun h9 => ?_) (fun h9 => ?_)
      · try simp only [Bool.and_eq_true, Bool.or_eq_true, Bool.not_eq_true', Bool.and_eq_false_iff, Bool.or_eq_false_iff, Bool.not_eq_false', decide_eq_true_eq, decide_eq_false_iff_not, beq_iff_eq, bne_iff_ne, beq_eq_false_iff_ne, bne_eq_false_iff_eq, Bool.true_and, ne_eq, Decidable.not_not, Int.not_lt, Int.not_le, Nat.not_lt, Nat.not_le, strB_nil, strB_nil', strB_nnil, strB_nnil'] at h9
        refine run_skip ?_
        refine run_seq ?_
        refine run_block ?_
        refine run_seq ?_
        refine run_draw fmo (q_move .n (.t rfl) rfl <|
            q_nilc_ro .n (.t rfl) rfl <|
            q_fld_ro .n (.t rfl) fo_26_1 rfl <|
            q_ld1_ro .n (.t rfl) rfl ic_24 rfl <|
            q_move .n (.t rfl) rfl <|
            q_move .n (.t rfl) rfl <|
            q_idx_rm .n (.t rfl) (.t rfl) sl_28 (fun _ => by omega) rfl <|
            q_ld1_ro .n (.t rfl) rfl ic_2 rfl <|
            q_idx_rm .n (.t rfl) (.t rfl) sl_24 (fun _ => by ((have hq := ListIn.air (list := list) hp1 hp2 (i := x2.2) (by omega); have hr := ListIn.at (list := list) hp2 (i := x2.2) (by omega); first | omega | (dsimp only; omega)))) rfl <|
            q_assign .n (.t rfl) rfl <|
            Lex.nil) (by kernel_rfl) ?_
        refine run_seq ?_
        refine run_draw fmo (q_move .n (.t rfl) rfl <|
            q_move .n (.t rfl) rfl <|
            q_nilc_ro .n (.t rfl) rfl <|
            q_fld_ro .n (.t rfl) fo_46_1 rfl <|
            q_ld1_ro .n (.t rfl) rfl ic_2 rfl <|
            q_idx_ow .n (.t rfl) (.t rfl) sl_28 (fun _ => by ((have hq := ListIn.air (list := list) hp1 hp2 (i := x2.2) (by omega); have hr := ListIn.at (list := list) hp2 (i := x2.2) (by omega); first | omega | (dsimp only; omega)))) rfl <|
            q_ld1_row .n (.t rfl) rfl (fun _ => by ((have hq := ListIn.air (list := list) hp1 hp2 (i := x2.2) (by omega); have hr := ListIn.at (list := list) hp2 (i := x2.2) (by omega); first | omega | (dsimp only; omega)))) rfl rfl rfl ic_2 rfl <|
            q_move .n (.t rfl) rfl <|
            q_move .n (.t rfl) rfl <|
            q_nilc_ro .n (.t rfl) rfl <|
            q_fld_ro .n (.t rfl) fo_46_2 rfl <|
            q_ld1_ro .n (.t rfl) rfl ic_2 rfl <|
            q_idx_ow .n (.t rfl) (.t rfl) sl_28 (fun _ => by ((have hq := ListIn.air (list := list) hp1 hp2 (i := x2.2) (by omega); have hr := ListIn.at (list := list) hp2 (i := x2.2) (by omega); first | omega | (dsimp only; omega)))) rfl <|
            q_ld1_row .n (.t rfl) rfl (fun _ => by ((have hq := ListIn.air (list := list) hp1 hp2 (i := x2.2) (by omega); have hr := ListIn.at (list := list) hp2 (i := x2.2) (by omega); first | omega | (dsimp only; omega)))) rfl rfl rfl ic_2 rfl <|
            q_call0 (full := false) .n .f en_127 (.cons (.t rfl) (.cons (.t rfl) .nil)) (.cons (.b (.a (.same rfl))) (.cons (.b (.a (.same rfl))) .nil)) (fun hg => c_spec_l00Min (at' x2.1 (at' m_.Airways (at' list x2.2)).From) (at' x2.1 (at' m_.Airways (at' list x2.2)).To)) rfl (fun h => Bool.noConfusion h) rfl <|
            q_assign .n (.t rfl) rfl <|
            Lex.nil) (by kernel_rfl) ?_
        refine run_seq ?_
        refine run_draw fmo (q_move .n (.t rfl) rfl <|
            q_move .n (.t rfl) rfl <|
            q_nilc_ro .n (.t rfl) rfl <|
            q_fld_ro .n (.t rfl) fo_46_1 rfl <|
            q_ld1_ro .n (.t rfl) rfl ic_2 rfl <|
            q_idx_ow .n (.t rfl) (.t rfl) sl_28 (fun _ => by ((have hq := ListIn.air (list := list) hp1 hp2 (i := x2.2) (by omega); have hr := ListIn.at (list := list) hp2 (i := x2.2) (by omega); first | omega | (dsimp only; omega)))) rfl <|
            q_ld1_row .n (.t rfl) rfl (fun _ => by ((have hq := ListIn.air (list := list) hp1 hp2 (i := x2.2) (by omega); have hr := ListIn.at (list := list) hp2 (i := x2.2) (by omega); first | omega | (dsimp only; omega)))) rfl rfl rfl ic_2 rfl <|
            q_move .n (.t rfl) rfl <|
            q_move .n (.t rfl) rfl <|
            q_nilc_ro .n (.t rfl) rfl <|
            q_fld_ro .n (.t rfl) fo_46_2 rfl <|
            q_ld1_ro .n (.t rfl) rfl ic_2 rfl <|
            q_idx_ow .n (.t rfl) (.t rfl) sl_28 (fun _ => by ((have hq := ListIn.air (list := list) hp1 hp2 (i := x2.2) (by omega); have hr := ListIn.at (list := list) hp2 (i := x2.2) (by omega); first | omega | (dsimp only; omega)))) rfl <|
            q_ld1_row .n (.t rfl) rfl (fun _ => by ((have hq := ListIn.air (list := list) hp1 hp2 (i := x2.2) (by omega); have hr := ListIn.at (list := list) hp2 (i := x2.2) (by omega); first | omega | (dsimp only; omega)))) rfl rfl rfl ic_2 rfl <|
            q_call0 (full := false) .n .f en_128 (.cons (.t rfl) (.cons (.t rfl) .nil)) (.cons (.b (.a (.same rfl))) (.cons (.b (.a (.same rfl))) .nil)) (fun hg => c_spec_l00Max (at' x2.1 (at' m_.Airways (at' list x2.2)).From) (at' x2.1 (at' m_.Airways (at' list x2.2)).To)) rfl (fun h => Bool.noConfusion h) rfl <|
            q_assign .n (.t rfl) rfl <|
            Lex.nil) (by kernel_rfl) ?_
        refine run_seq ?_
        refine run_region (q_assign .n (.c rfl) rfl <|
            Lex.nil) ?_
        refine run_block ?_
        refine run_LOOP (m_spec_l04Parts_b3 m_ list x1 rec2 k2 x2) _ _ _ rfl (fun (x3 : (List Int) × Int) => 0 ≤ x3.2 ∧ x3.1.length = x2.1.length) (fun x3 => 0 ≤ x3.2 ∧ x3.1.length = x2.1.length ∧ (x3.1.length : Int) ≤ x3.2) (fun x3 => ((x3.1.length : Int) - x3.2 : Int).toNat) (fun x3 => ⟨[(0, some (true, .rp [.int .i64 m_.Junctions, .sl 7 (m_.Airways.map gAirway.v)])), (1, some (true, .sl 1 (list.map (V.int .i64)))), (5, some (true, .os 200 x3.1.length)), (7, some (true, .int .i64 x2.2)), (9, some (true, .int .i64 (m_spec_l00Min (at' x2.1 (at' m_.Airways (at' list x2.2)).From) (at' x2.1 (at' m_.Airways (at' list x2.2)).To)))), (10, some (true, .int .i64 (m_spec_l00Max (at' x2.1 (at' m_.Airways (at' list x2.2)).From) (at' x2.1 (at' m_.Airways (at' list x2.2)).To)))), (11, some (true, .int .i64 x3.2))], [(200, some (.row 2 1 (x3.1.map (V.int .i64))))]⟩) (fun x3 => ⟨[(0, some (true, .rp [.int .i64 m_.Junctions, .sl 7 (m_.Airways.map gAirway.v)])), (1, some (true, .sl 1 (list.map (V.int .i64)))), (5, some (true, .os 200 x3.1.length)), (7, some (true, .int .i64 x2.2))], [(200, some (.row 2 1 (x3.1.map (V.int .i64))))]⟩) ⟨by omega, by (simp only [List.length_append, List.length_cons, List.length_nil, List.length_replicate, put_len] at * <;> omega)⟩ (by (simp only [List.length_append, List.length_cons, List.length_nil, List.length_replicate, put_len] at * <;> omega)) (sub_of [] ⟨rfl, rfl, rfl, rfl, rfl, rfl, rfl, trivial⟩ ⟨rfl, trivial⟩ rfl) ?_ ?_
        · intro x3 i14
          obtain ⟨e15, e16, e17⟩ := i14
          try dsimp only at *
          refine run_endB ?_
          refine run_region (q_move .n (.t rfl) rfl <|
              q_add .n (.t rfl) (.c rfl) (fun _ => by omega) rfl <|
              q_assign .n (.t rfl) rfl <|
              Lex.nil) ?_
          exact run_again (x3.1, x2.2 + 1) ⟨by omega, by omega, by (simp only [List.length_append, List.length_cons, List.length_nil, List.length_replicate, put_len] at * <;> omega)⟩ (by omega) (sub_of [] ⟨rfl, rfl, rfl, rfl, trivial⟩ ⟨rfl, trivial⟩ rfl)
        · intro rec3 k3 hk10 x3 i11
          obtain ⟨e18, e19⟩ := i11
          try dsimp only at *
          refine run_seq ?_
          refine run_seq ?_
          refine run_region (q_move .n (.t rfl) rfl <|
              q_move .n (.t rfl) rfl <|
              q_len .n (.t rfl) rfl rfl ss_28 rfl <|
              q_int .n (.t rfl) (.t rfl) rfl rfl <|
              Lex.nil) ?_
          refine run_cond (.t rfl) rfl (fun h12 => ?_) (fun h12 => ?_)
          · try simp only [Bool.and_eq_true, Bool.or_eq_true, Bool.not_eq_true', Bool.and_eq_false_iff, Bool.or_eq_false_iff, Bool.not_eq_false', decide_eq_true_eq, decide_eq_false_iff_not, beq_iff_eq, bne_iff_ne, beq_eq_false_iff_ne, bne_eq_false_iff_eq, Bool.true_and, ne_eq, Decidable.not_not, Int.not_lt, Int.not_le, Nat.not_lt, Nat.not_le, strB_nil, strB_nil', strB_nnil, strB_nnil'] at h12
            refine run_skip ?_
            refine run_seq ?_
            refine run_block ?_
            refine run_seq ?_
            refine run_region (q_move .n (.t rfl) rfl <|
                q_move .n (.t rfl) rfl <|
                q_idx_ow .n (.t rfl) (.t rfl) sl_28 (fun _ => by omega) rfl <|
                q_ld1_row .n (.t rfl) rfl (fun _ => by omega) rfl rfl rfl ic_2 rfl <|
                q_move .n (.t rfl) rfl <|
                q_int .n (.t rfl) (.t rfl) rfl rfl <|
                Lex.nil) ?_
            refine run_cond (.t rfl) rfl (fun h13 => ?_) (fun h13 => ?_)
            · try simp only [Bool.and_eq_true, Bool.or_eq_true, Bool.not_eq_true', Bool.and_eq_false_iff, Bool.or_eq_false_iff, Bool.not_eq_false', decide_eq_true_eq, decide_eq_false_iff_not, beq_iff_eq, bne_iff_ne, beq_eq_false_iff_ne, bne_eq_false_iff_eq, Bool.true_and, ne_eq, Decidable.not_not, Int.not_lt, Int.not_le, Nat.not_lt, Nat.not_le, strB_nil, strB_nil', strB_nnil, strB_nnil'] at h13
              refine run_region (q_move .n (.t rfl) rfl <|
                  q_move .n (.t rfl) rfl <|
                  q_move .n (.t rfl) rfl <|
                  q_idx_ow .n (.t rfl) (.t rfl) sl_28 (fun _ => by omega) rfl <|
                  q_st_rowm (m_spec_l00Min (at' x2.1 (at' m_.Airways (at' list x2.2)).From) (at' x2.1 (at' m_.Airways (at' list x2.2)).To)) .n rfl (.t rfl) (.t rfl) rfl ts_2 (by omega) rfl rfl <|
                  Lex.nil) ?_
              refine run_endB ?_
              refine run_region (q_move .n (.t rfl) rfl <|
                  q_add .n (.t rfl) (.c rfl) (fun _ => by omega) rfl <|
                  q_assign .n (.t rfl) rfl <|
                  Lex.nil) ?_
              exact run_again (put' x3.1 x3.2 (m_spec_l00Min (at' x2.1 (at' m_.Airways (at' list x2.2)).From) (at' x2.1 (at' m_.Airways (at' list x2.2)).To)), x3.2 + 1) ⟨by omega, by (simp only [List.length_append, List.length_cons, List.length_nil, List.length_replicate, put_len] at * <;> omega)⟩ (by (simp only [List.length_append, List.length_cons, List.length_nil, List.length_replicate, put_len] at * <;> omega)) (sub_of [] ⟨rfl, rfl, os_len rfl (by first | (simp only [put_len]; done) | (first | omega | assumption | (simp only [List.length_append, List.length_cons, List.length_nil, List.length_replicate, put_len] at * <;> omega) | (((have hq := ListIn.air (list := list) hp1 hp2 (i := x2.2) (by omega); have hr := ListIn.at (list := list) hp2 (i := x2.2) (by omega); first | omega | (dsimp only; omega))); done))), rfl, rfl, rfl, rfl, trivial⟩ ⟨rfl, trivial⟩ rfl)
            · try simp only [Bool.and_eq_true, Bool.or_eq_true, Bool.not_eq_true', Bool.and_eq_false_iff, Bool.or_eq_false_iff, Bool.not_eq_false', decide_eq_true_eq, decide_eq_false_iff_not, beq_iff_eq, bne_iff_ne, beq_eq_false_iff_ne, bne_eq_false_iff_eq, Bool.true_and, ne_eq, Decidable.not_not, Int.not_lt, Int.not_le, Nat.not_lt, Nat.not_le, strB_nil, strB_nil', strB_nnil, strB_nnil'] at h13
              refine run_skip ?_
              refine run_endB ?_
              refine run_region (q_move .n (.t rfl) rfl <|
                  q_add .n (.t rfl) (.c rfl) (fun _ => by omega) rfl <|
                  q_assign .n (.t rfl) rfl <|
                  Lex.nil) ?_
              exact run_again (x3.1, x3.2 + 1) ⟨by omega, by omega⟩ (by (simp only [List.length_append, List.length_cons, List.length_nil, List.length_replicate, put_len] at * <;> omega)) (sub_of [] ⟨rfl, rfl, rfl, rfl, rfl, rfl, rfl, trivial⟩ ⟨rfl, trivial⟩ rfl)
          · try simp only [Bool.and_eq_true, Bool.or_eq_true, Bool.not_eq_true', Bool.and_eq_false_iff, Bool.or_eq_false_iff, Bool.not_eq_false', decide_eq_true_eq, decide_eq_false_iff_not, beq_iff_eq, bne_iff_ne, beq_eq_false_iff_ne, bne_eq_false_iff_eq, Bool.true_and, ne_eq, Decidable.not_not, Int.not_lt, Int.not_le, Nat.not_lt, Nat.not_le, strB_nil, strB_nil', strB_nnil, strB_nnil'] at h12
            refine run_exit rfl ?_
            exact run_cont hk10 (x3.1, x3.2) ⟨by omega, by omega, by omega⟩ (sub_of [] ⟨rfl, rfl, rfl, rfl, trivial⟩ ⟨rfl, trivial⟩ rfl)
      · try simp only [Bool.and_eq_true, Bool.or_eq_true, Bool.not_eq_true', Bool.and_eq_false_iff, Bool.or_eq_false_iff, Bool.not_eq_false', decide_eq_true_eq, decide_eq_false_iff_not, beq_iff_eq, bne_iff_ne, beq_eq_false_iff_ne, bne_eq_false_iff_eq, Bool.true_and, ne_eq, Decidable.not_not, Int.not_lt, Int.not_le, Nat.not_lt, Nat.not_le, strB_nil, strB_nil', strB_nnil, strB_nnil'] at h9
        refine run_exit rfl ?_
        exact run_cont hk7 (x2.1, x2.2) ⟨by omega, by omega, by omega, by omega⟩ (sub_of [] ⟨rfl, trivial⟩ ⟨rfl, trivial⟩ rfl)
  · intro rec1 k1 hk3 x1 i4
    obtain ⟨e33, e34, e35, e36⟩ := i4
    try dsimp only at *
    refine run_seq ?_
    refine run_seq ?_
    refine run_region (q_move .n (.t rfl) rfl <|
        q_move .n (.t rfl) rfl <|
        q_nilc_ro .n (.t rfl) rfl <|
        q_fld_ro .n (.t rfl) fo_26_0 rfl <|
        q_ld1_ro .n (.t rfl) rfl ic_2 rfl <|
        q_int .n (.t rfl) (.t rfl) rfl rfl <|
        Lex.nil) ?_
    refine run_cond (.t rfl) rfl (fun h5 => ?_) (fun h5 => ?_)
    · try simp only [Bool.and_eq_true, Bool.or_eq_true, Bool.not_eq_true', Bool.and_eq_false_iff, Bool.or_eq_false_iff, Bool.not_eq_false', decide_eq_true_eq, decide_eq_false_iff_not, beq_iff_eq, bne_iff_ne, beq_eq_false_iff_ne, bne_eq_false_iff_eq, Bool.true_and, ne_eq, Decidable.not_not, Int.not_lt, Int.not_le, Nat.not_lt, Nat.not_le, strB_nil, strB_nil', strB_nnil, strB_nnil'] at h5
      refine run_skip ?_
      refine run_seq ?_
      refine run_block ?_
      refine run_region (q_move .n (.t rfl) rfl <|
          q_move .n (.t rfl) rfl <|
          q_bslicem ([x1.2] : List Int) (f := V.int .i64) (l := 201) .n rfl rfl (.cons (.t rfl) .nil) rfl si_28 zv_2 rfl rfl rfl <|
          q_appm (xs := x1.1) (ys := ([x1.2] : List Int)) (f := V.int .i64) (l := 202) .n rfl (.ow (.t rfl) rfl (take_all (by simp only [len_map, put_len] <;> rfl)) (by simp only [len_map, put_len] <;> rfl)) (.ow (.t rfl) rfl (take_all (by simp only [len_map, put_len] <;> rfl)) (by simp only [len_map, put_len] <;> rfl)) si_28 zv_2 rfl (by (simp only [List.length_append, List.length_cons, List.length_nil, List.length_replicate, put_len] at * <;> omega)) rfl rfl <|
          q_assign .n (.t rfl) rfl <|
          Lex.nil) ?_
      refine run_endB ?_
      refine run_region (q_move .n (.t rfl) rfl <|
          q_add .n (.t rfl) (.c rfl) (fun _ => by omega) rfl <|
          q_assign .n (.t rfl) rfl <|
          Lex.nil) ?_
      exact run_again (x1.1 ++ ([x1.2] : List Int), x1.2 + 1) ⟨by omega, by omega, by (simp only [List.length_append, List.length_cons, List.length_nil, List.length_replicate, put_len] at * <;> omega), by (simp only [List.length_append, List.length_cons, List.length_nil, List.length_replicate, put_len] at * <;> omega)⟩ (by omega) (sub_of [(200, 202)] ⟨rfl, rfl, rfl, rfl, trivial⟩ ⟨rfl, trivial⟩ rfl)
    · try simp only [Bool.and_eq_true, Bool.or_eq_true, Bool.not_eq_true', Bool.and_eq_false_iff, Bool.or_eq_false_iff, Bool.not_eq_false', decide_eq_true_eq, decide_eq_false_iff_not, beq_iff_eq, bne_iff_ne, beq_eq_false_iff_ne, bne_eq_false_iff_eq, Bool.true_and, ne_eq, Decidable.not_not, Int.not_lt, Int.not_le, Nat.not_lt, Nat.not_le, strB_nil, strB_nil', strB_nnil, strB_nnil'] at h5
      refine run_exit rfl ?_
      exact run_cont hk3 (x1.1, x1.2) ⟨by omega, by omega, by omega, by omega, by omega⟩ (sub_of [] ⟨rfl, rfl, rfl, trivial⟩ ⟨rfl, trivial⟩ rfl)

/-! ### spec_l04Tree -/
theorem c_spec_l04Tree (m_ : gMine) (hp1 : MineIn m_) : Con Try.prog 64 [.rp [.int .i64 m_.Junctions, .sl 7 (m_.Airways.map gAirway.v)]] [] (.os 100 (m_spec_l04Tree m_).length) ([(100, some (.row 2 1 ((m_spec_l04Tree m_).map (V.int .i64))))]) := by
  refine con_intro (out := fun r : (List Int) => ((.os 100 r.length : V), ([(100, some (.row 2 1 (r.map (V.int .i64))))] : List (Nat × Option O)))) (r := (m_spec_l04Tree m_)) Try.func64 rfl Try.ntmps64 rfl ?_
  have hJ := hp1.1
  have hA := hp1.2.1
  have hJ1 := hp1.1
  have hA1 := hp1.2.1
  refine run_factP (t := 0) 1 rfl rfl fun hl => ?_
  have l1 := hl; clear hl; simp only [List.length_map] at l1
  refine run_seq ?_
  refine run_region (q_assign .n (.c rfl) rfl <|
      Lex.nil) ?_
  refine run_seq ?_
  refine run_region (q_bslicem ([] : List Int) (f := V.int .i64) (l := 200) .n rfl rfl .nil rfl si_28 zv_2 rfl rfl rfl <|
      q_assign .n (.t rfl) rfl <|
      Lex.nil) ?_
  refine run_seq ?_
  refine run_seq ?_
  refine run_region (q_assign .n (.c rfl) rfl <|
      Lex.nil) ?_
  refine run_block ?_
  refine run_LOOP (m_spec_l04Tree_b1 m_) _ _ _ rfl (fun (x1 : (List Int) × Int) => 0 ≤ x1.2 ∧ x1.2 ≤ (m_.Airways.length : Int) ∧ (x1.1.length : Int) + 0 ≤ x1.2 + (([] : List Int).length : Int) ∧ (x1.1.length : Int) ≤ x1.2 ∧ ListIn m_ x1.1) (fun x1 => 0 ≤ x1.2 ∧ x1.2 ≤ (m_.Airways.length : Int) ∧ (x1.1.length : Int) + 0 ≤ x1.2 + (([] : List Int).length : Int) ∧ (x1.1.length : Int) ≤ x1.2 ∧ ListIn m_ x1.1 ∧ (m_.Airways.length : Int) ≤ x1.2) (fun x1 => ((m_.Airways.length : Int) - x1.2 : Int).toNat) (fun x1 => ⟨[(0, some (true, .rp [.int .i64 m_.Junctions, .sl 7 (m_.Airways.map gAirway.v)])), (3, some (true, .os 200 x1.1.length)), (4, some (true, .int .i64 x1.2))], [(200, some (.row 2 1 (x1.1.map (V.int .i64))))]⟩) (fun x1 => ⟨[(3, some (true, .os 200 x1.1.length))], [(200, some (.row 2 1 (x1.1.map (V.int .i64))))]⟩) ⟨by omega, by omega, by (simp only [List.length_append, List.length_cons, List.length_nil, List.length_replicate, put_len] at * <;> omega), by (simp only [List.length_append, List.length_cons, List.length_nil, List.length_replicate, put_len] at * <;> omega), by ((intro y hy; exact absurd hy (List.not_mem_nil)))⟩ (by omega) (sub_of [] ⟨rfl, rfl, rfl, trivial⟩ ⟨rfl, trivial⟩ rfl) ?_ ?_
  · intro x1 i6
    obtain ⟨e7, e8, e9, e10, e11, e12⟩ := i6
    try dsimp only at *
    refine run_seq ?_
    refine run_region (q_move .n (.t rfl) rfl <|
        q_assign .n (.t rfl) rfl <|
        Lex.nil) ?_
    exact run_ret [(100, 200)] (.cons (.t rfl rfl) .nil) (by first | rfl | (simp only [put_len]; rfl)) ⟨rfl, trivial⟩ rfl
  · intro rec1 k1 hk2 x1 i3
    obtain ⟨e13, e14, e15, e16, e17⟩ := i3
    try dsimp only at *
    refine run_seq ?_
    refine run_seq ?_
    refine run_region (q_move .n (.t rfl) rfl <|
        q_move .n (.t rfl) rfl <|
        q_nilc_ro .n (.t rfl) rfl <|
        q_fld_ro .n (.t rfl) fo_26_1 rfl <|
        q_ld1_ro .n (.t rfl) rfl ic_24 rfl <|
        q_len .n (.t rfl) rfl len_map ss_24 rfl <|
        q_int .n (.t rfl) (.t rfl) rfl rfl <|
        Lex.nil) ?_
    refine run_cond (.t rfl) rfl (fun h4 => ?_) (fun h4 => ?_)
    · try simp only [Bool.and_eq_true, Bool.or_eq_true, Bool.not_eq_true', Bool.and_eq_false_iff, Bool.or_eq_false_iff, Bool.not_eq_false', decide_eq_true_eq, decide_eq_false_iff_not, beq_iff_eq, bne_iff_ne, beq_eq_false_iff_ne, bne_eq_false_iff_eq, Bool.true_and, ne_eq, Decidable.not_not, Int.not_lt, Int.not_le, Nat.not_lt, Nat.not_le, strB_nil, strB_nil', strB_nnil, strB_nnil'] at h4
      refine run_skip ?_
      refine run_seq ?_
      refine run_block ?_
      refine run_seq ?_
      refine run_region (q_move .n (.t rfl) rfl <|
          q_move .n (.t rfl) rfl <|
          q_callM (full := true) [] [(100, 201)] .n rfl .f en_108 (.cons (.t rfl) (.cons (.t rfl) .nil)) (.cons (.b (.a (.same rfl))) (.cons (.b (.a (.own rfl rfl rfl (take_all (by simp only [len_map, put_len] <;> rfl)) (by simp only [len_map, put_len] <;> rfl)))) .nil)) (c_spec_l04Parts m_ x1.1 (by omega) (by omega)) trivial rfl rfl (fun _ => rfl) (fun _ => (hr_row (fun _ => rfl) hr_nil)) rfl <|
          q_assign .n (.t rfl) rfl <|
          Lex.nil) ?_
      refine run_seq ?_
      refine run_draw fmo (q_move .n (.t rfl) rfl <|
          q_move .n (.t rfl) rfl <|
          q_nilc_ro .n (.t rfl) rfl <|
          q_fld_ro .n (.t rfl) fo_26_1 rfl <|
          q_ld1_ro .n (.t rfl) rfl ic_24 rfl <|
          q_move .n (.t rfl) rfl <|
          q_idx_rm .n (.t rfl) (.t rfl) sl_24 (fun _ => by omega) rfl <|
          q_fld_ro .n (.t rfl) fo_46_1 rfl <|
          q_ld1_ro .n (.t rfl) rfl ic_2 rfl <|
          q_idx_ow .n (.t rfl) (.t rfl) sl_28 (fun _ => by ((have hq := parts_len (m := m_) (list := x1.1) hJ.1; have hr := hp1.at (i := x1.2) (by omega); unfold AirIn at hr; omega))) rfl <|
          q_ld1_row .n (.t rfl) rfl (fun _ => by ((have hq := parts_len (m := m_) (list := x1.1) hJ.1; have hr := hp1.at (i := x1.2) (by omega); unfold AirIn at hr; omega))) rfl rfl rfl ic_2 rfl <|
          q_move .n (.t rfl) rfl <|
          q_move .n (.t rfl) rfl <|
          q_nilc_ro .n (.t rfl) rfl <|
          q_fld_ro .n (.t rfl) fo_26_1 rfl <|
          q_ld1_ro .n (.t rfl) rfl ic_24 rfl <|
          q_move .n (.t rfl) rfl <|
          q_idx_rm .n (.t rfl) (.t rfl) sl_24 (fun _ => by omega) rfl <|
          q_fld_ro .n (.t rfl) fo_46_2 rfl <|
          q_ld1_ro .n (.t rfl) rfl ic_2 rfl <|
          q_idx_ow .n (.t rfl) (.t rfl) sl_28 (fun _ => by ((have hq := parts_len (m := m_) (list := x1.1) hJ.1; have hr := hp1.at (i := x1.2) (by omega); unfold AirIn at hr; omega))) rfl <|
          q_ld1_row .n (.t rfl) rfl (fun _ => by ((have hq := parts_len (m := m_) (list := x1.1) hJ.1; have hr := hp1.at (i := x1.2) (by omega); unfold AirIn at hr; omega))) rfl rfl rfl ic_2 rfl <|
          q_int .n (.t rfl) (.t rfl) rfl rfl <|
          Lex.nil) (by kernel_rfl) ?_
      refine run_cond (.t rfl) rfl (fun h5 => ?_) (fun h5 => ?_)
      · try simp only [Bool.and_eq_true, Bool.or_eq_true, Bool.not_eq_true', Bool.and_eq_false_iff, Bool.or_eq_false_iff, Bool.not_eq_false', decide_eq_true_eq, decide_eq_false_iff_not, beq_iff_eq, bne_iff_ne, beq_eq_false_iff_ne, bne_eq_false_iff_eq, Bool.true_and, ne_eq, Decidable.not_not, Int.not_lt, Int.not_le, Nat.not_lt, Nat.not_le, strB_nil, strB_nil', strB_nnil, strB_nnil'] at h5
        refine run_region (q_move .n (.t rfl) rfl <|
            q_move .n (.t rfl) rfl <|
            q_bslicem ([x1.2] : List Int) (f := V.int .i64) (l := 202) .n rfl rfl (.cons (.t rfl) .nil) rfl si_28 zv_2 rfl rfl rfl <|
            q_appm (xs := x1.1) (ys := ([x1.2] : List Int)) (f := V.int .i64) (l := 203) .n rfl (.ow (.t rfl) rfl (take_all (by simp only [len_map, put_len] <;> rfl)) (by simp only [len_map, put_len] <;> rfl)) (.ow (.t rfl) rfl (take_all (by simp only [len_map, put_len] <;> rfl)) (by simp only [len_map, put_len] <;> rfl)) si_28 zv_2 rfl (by (simp only [List.length_append, List.length_cons, List.length_nil, List.length_replicate, put_len] at * <;> omega)) rfl rfl <|
            q_assign .n (.t rfl) rfl <|
            Lex.nil) ?_
        refine run_endB ?_
        refine run_region (q_move .n (.t rfl) rfl <|
            q_add .n (.t rfl) (.c rfl) (fun _ => by omega) rfl <|
            q_assign .n (.t rfl) rfl <|
            Lex.nil) ?_
        exact run_again (x1.1 ++ ([x1.2] : List Int), x1.2 + 1) ⟨by omega, by omega, by (simp only [List.length_append, List.length_cons, List.length_nil, List.length_replicate, put_len] at * <;> omega), by (simp only [List.length_append, List.length_cons, List.length_nil, List.length_replicate, put_len] at * <;> omega), by ((dsimp only; exact tree_add (by assumption) (by omega)))⟩ (by omega) (sub_of [(200, 203)] ⟨rfl, rfl, rfl, trivial⟩ ⟨rfl, trivial⟩ rfl)
      · try simp only [Bool.and_eq_true, Bool.or_eq_true, Bool.not_eq_true', Bool.and_eq_false_iff, Bool.or_eq_false_iff, Bool.not_eq_false', decide_eq_true_eq, decide_eq_false_iff_not, beq_iff_eq, bne_iff_ne, beq_eq_false_iff_ne, bne_eq_false_iff_eq, Bool.true_and, ne_eq, Decidable.not_not, Int.not_lt, Int.not_le, Nat.not_lt, Nat.not_le, strB_nil, strB_nil', strB_nnil, strB_nnil'] at h5
        refine run_skip ?_
        refine run_endB ?_
        refine run_region (q_move .n (.t rfl) rfl <|
            q_add .n (.t rfl) (.c rfl) (fun _ => by omega) rfl <|
            q_assign .n (.t rfl) rfl <|
            Lex.nil) ?_
        exact run_again (x1.1, x1.2 + 1) ⟨by omega, by omega, by (simp only [List.length_append, List.length_cons, List.length_nil, List.length_replicate, put_len] at * <;> omega), by (simp only [List.length_append, List.length_cons, List.length_nil, List.length_replicate, put_len] at * <;> omega), by omega⟩ (by omega) (sub_of [] ⟨rfl, rfl, rfl, trivial⟩ ⟨rfl, trivial⟩ rfl)
    · try simp only [Bool.and_eq_true, Bool.or_eq_true, Bool.not_eq_true', Bool.and_eq_false_iff, Bool.or_eq_false_iff, Bool.not_eq_false', decide_eq_true_eq, decide_eq_false_iff_not, beq_iff_eq, bne_iff_ne, beq_eq_false_iff_ne, bne_eq_false_iff_eq, Bool.true_and, ne_eq, Decidable.not_not, Int.not_lt, Int.not_le, Nat.not_lt, Nat.not_le, strB_nil, strB_nil', strB_nnil, strB_nnil'] at h4
      refine run_exit rfl ?_
      exact run_cont hk2 (x1.1, x1.2) ⟨by omega, by omega, by omega, by omega, by omega, by omega⟩ (sub_of [] ⟨rfl, trivial⟩ ⟨rfl, trivial⟩ rfl)

/-! ### spec_l00Has -/
theorem c_spec_l00Has (list : List Int) (n_ : Int) : Con Try.prog 65 [.sl 1 (list.map (V.int .i64)), .int .i64 n_] [] (.bool (m_spec_l00Has list n_)) ([]) := by
  refine con_intro (out := fun r : Bool => ((.bool r : V), ([] : List (Nat × Option O)))) (r := (m_spec_l00Has list n_)) Try.func65 rfl Try.ntmps65 rfl ?_
  refine run_fact (t := 0) rfl fun hl => ?_
  have l1 := hl; clear hl; simp only [List.length_map] at l1
  refine run_seq ?_
  refine run_region (q_assign .n (.c rfl) rfl <|
      Lex.nil) ?_
  refine run_seq ?_
  refine run_seq ?_
  refine run_region (q_assign .n (.c rfl) rfl <|
      Lex.nil) ?_
  refine run_block ?_
  refine run_LOOP (m_spec_l00Has_b1 list n_) _ _ _ rfl (fun (x1 : Int) => 0 ≤ x1 ∧ x1 ≤ (list.length : Int)) (fun x1 => 0 ≤ x1 ∧ x1 ≤ (list.length : Int) ∧ (list.length : Int) ≤ x1) (fun x1 => ((list.length : Int) - x1 : Int).toNat) (fun x1 => ⟨[(0, some (true, .sl 1 (list.map (V.int .i64)))), (1, some (true, .int .i64 n_)), (5, some (true, .int .i64 x1))], []⟩) (fun x1 => ⟨[], []⟩) ⟨by omega, by omega⟩ (by omega) (sub_of [] ⟨rfl, rfl, rfl, trivial⟩ trivial rfl) ?_ ?_
  · intro x1 i6
    obtain ⟨e7, e8, e9⟩ := i6
    try dsimp only at *
    refine run_seq ?_
    refine run_region (q_assign .n (.c rfl) rfl <|
        Lex.nil) ?_
    exact run_ret [] (.cons (.t rfl rfl) .nil) rfl trivial rfl
  · intro rec1 k1 hk2 x1 i3
    obtain ⟨e10, e11⟩ := i3
    try dsimp only at *
    refine run_seq ?_
    refine run_seq ?_
    refine run_region (q_move .n (.t rfl) rfl <|
        q_move .n (.t rfl) rfl <|
        q_len .n (.t rfl) rfl len_map ss_28 rfl <|
        q_int .n (.t rfl) (.t rfl) rfl rfl <|
        Lex.nil) ?_
    refine run_cond (.t rfl) rfl (fun h4 => ?_) (fun h4 => ?_)
    · try simp only [Bool.and_eq_true, Bool.or_eq_true, Bool.not_eq_true', Bool.and_eq_false_iff, Bool.or_eq_false_iff, Bool.not_eq_false', decide_eq_true_eq, decide_eq_false_iff_not, beq_iff_eq, bne_iff_ne, beq_eq_false_iff_ne, bne_eq_false_iff_eq, Bool.true_and, ne_eq, Decidable.not_not, Int.not_lt, Int.not_le, Nat.not_lt, Nat.not_le, strB_nil, strB_nil', strB_nnil, strB_nnil'] at h4
      refine run_skip ?_
      refine run_seq ?_
      refine run_block ?_
      refine run_seq ?_
      refine run_region (q_move .n (.t rfl) rfl <|
          q_move .n (.t rfl) rfl <|
          q_idx_rm .n (.t rfl) (.t rfl) sl_28 (fun _ => by omega) rfl <|
          q_ld1_ro .n (.t rfl) rfl ic_2 rfl <|
          q_move .n (.t rfl) rfl <|
          q_int .n (.t rfl) (.t rfl) rfl rfl <|
          Lex.nil) ?_
      refine run_cond (.t rfl) rfl (fun h5 => ?_) (fun h5 => ?_)
      · try simp only [Bool.and_eq_true, Bool.or_eq_true, Bool.not_eq_true', Bool.and_eq_false_iff, Bool.or_eq_false_iff, Bool.not_eq_false', decide_eq_true_eq, decide_eq_false_iff_not, beq_iff_eq, bne_iff_ne, beq_eq_false_iff_ne, bne_eq_false_iff_eq, Bool.true_and, ne_eq, Decidable.not_not, Int.not_lt, Int.not_le, Nat.not_lt, Nat.not_le, strB_nil, strB_nil', strB_nnil, strB_nnil'] at h5
        refine run_seq ?_
        refine run_region (q_assign .n (.c rfl) rfl <|
            Lex.nil) ?_
        exact run_ret [] (.cons (.t rfl rfl) .nil) rfl trivial rfl
      · try simp only [Bool.and_eq_true, Bool.or_eq_true, Bool.not_eq_true', Bool.and_eq_false_iff, Bool.or_eq_false_iff, Bool.not_eq_false', decide_eq_true_eq, decide_eq_false_iff_not, beq_iff_eq, bne_iff_ne, beq_eq_false_iff_ne, bne_eq_false_iff_eq, Bool.true_and, ne_eq, Decidable.not_not, Int.not_lt, Int.not_le, Nat.not_lt, Nat.not_le, strB_nil, strB_nil', strB_nnil, strB_nnil'] at h5
        refine run_skip ?_
        refine run_endB ?_
        refine run_region (q_move .n (.t rfl) rfl <|
            q_add .n (.t rfl) (.c rfl) (fun _ => by omega) rfl <|
            q_assign .n (.t rfl) rfl <|
            Lex.nil) ?_
        exact run_again (x1 + 1) ⟨by omega, by omega⟩ (by omega) (sub_of [] ⟨rfl, rfl, rfl, trivial⟩ trivial rfl)
    · try simp only [Bool.and_eq_true, Bool.or_eq_true, Bool.not_eq_true', Bool.and_eq_false_iff, Bool.or_eq_false_iff, Bool.not_eq_false', decide_eq_true_eq, decide_eq_false_iff_not, beq_iff_eq, bne_iff_ne, beq_eq_false_iff_ne, bne_eq_false_iff_eq, Bool.true_and, ne_eq, Decidable.not_not, Int.not_lt, Int.not_le, Nat.not_lt, Nat.not_le, strB_nil, strB_nil', strB_nnil, strB_nnil'] at h4
      refine run_exit rfl ?_
      exact run_cont hk2 x1 ⟨by omega, by omega, by omega⟩ (sub_of [] trivial trivial rfl)

/-! ### spec_l04Walk -/
set_option maxRecDepth 100000 in
set_option maxHeartbeats 4000000 in
theorem c_spec_l04Walk (m_ : gMine) (list : List Int) (from_ : Int) (to : Int) (hp1 : MineIn m_) (hp2 : ListIn m_ list) (hp3 : 0 ≤ from_ ∧ from_ < m_.Junctions) (hp4 : 0 ≤ to ∧ to < m_.Junctions) : Con Try.prog 66 [.rp [.int .i64 m_.Junctions, .sl 7 (m_.Airways.map gAirway.v)], .sl 1 (list.map (V.int .i64)), .int .i64 from_, .int .i64 to] [] (.tup [.os 100 (m_spec_l04Walk m_ list from_ to).1.length, .bool (m_spec_l04Walk m_ list from_ to).2]) ([(100, some (.row 2 1 ((m_spec_l04Walk m_ list from_ to).1.map (V.int .i64))))]) := by
  refine con_intro (out := fun r : (List Int) × Bool => ((.tup [.os 100 r.1.length, .bool r.2] : V), ([(100, some (.row 2 1 (r.1.map (V.int .i64))))] : List (Nat × Option O)))) (r := (m_spec_l04Walk m_ list from_ to)) Try.func66 rfl Try.ntmps66 rfl ?_
  have hJ := hp1.1
  have hJ1 := hp1.1
  have hA1 := hp1.2.1
  refine run_factP (t := 0) 1 rfl rfl fun hl => ?_
  have l1 := hl; clear hl; simp only [List.length_map] at l1
  refine run_fact (t := 1) rfl fun hl => ?_
  have l2 := hl; clear hl; simp only [List.length_map] at l2
  refine run_seq ?_
  refine run_region (q_assign .n (.c rfl) rfl <|
      q_assign .n (.c rfl) rfl <|
      Lex.nil) ?_
  refine run_seq ?_
  refine run_region (q_bslicem ([] : List Int) (f := V.int .i64) (l := 200) .n rfl rfl .nil rfl si_28 zv_2 rfl rfl rfl <|
      q_assign .n (.t rfl) rfl <|
      Lex.nil) ?_
  refine run_seq ?_
  refine run_seq ?_
  refine run_region (q_assign .n (.c rfl) rfl <|
      Lex.nil) ?_
  refine run_block ?_
  refine run_LOOP (m_spec_l04Walk_b1 m_ list from_ to) _ _ _ rfl (fun (x1 : (List Int) × Int) => 0 ≤ x1.2 ∧ x1.2 ≤ m_.Junctions ∧ (x1.1.length : Int) + 0 ≤ x1.2 + (([] : List Int).length : Int) ∧ (x1.1.length : Int) = x1.2 ∧ (∀ j, 0 ≤ j → j < x1.2 → at' x1.1 j = -1)) (fun x1 => 0 ≤ x1.2 ∧ x1.2 ≤ m_.Junctions ∧ (x1.1.length : Int) + 0 ≤ x1.2 + (([] : List Int).length : Int) ∧ (x1.1.length : Int) = x1.2 ∧ (∀ j, 0 ≤ j → j < x1.2 → at' x1.1 j = -1) ∧ m_.Junctions ≤ x1.2) (fun x1 => (m_.Junctions - x1.2 : Int).toNat) (fun x1 => ⟨[(0, some (true, .rp [.int .i64 m_.Junctions, .sl 7 (m_.Airways.map gAirway.v)])), (1, some (true, .sl 1 (list.map (V.int .i64)))), (2, some (true, .int .i64 from_)), (3, some (true, .int .i64 to)), (10, some (true, .os 200 x1.1.length)), (11, some (true, .int .i64 x1.2))], [(200, some (.row 2 1 (x1.1.map (V.int .i64))))]⟩) (fun x1 => ⟨[(0, some (true, .rp [.int .i64 m_.Junctions, .sl 7 (m_.Airways.map gAirway.v)])), (1, some (true, .sl 1 (list.map (V.int .i64)))), (2, some (true, .int .i64 from_)), (3, some (true, .int .i64 to)), (10, some (true, .os 200 x1.1.length))], [(200, some (.row 2 1 (x1.1.map (V.int .i64))))]⟩) ⟨by omega, by omega, by (simp only [List.length_append, List.length_cons, List.length_nil, List.length_replicate, put_len] at * <;> omega), by (simp only [List.length_append, List.length_cons, List.length_nil, List.length_replicate, put_len] at * <;> omega), by omega⟩ (by omega) (sub_of [] ⟨rfl, rfl, rfl, rfl, rfl, rfl, trivial⟩ ⟨rfl, trivial⟩ rfl) ?_ ?_
  · intro x1 i6
    obtain ⟨e63, e64, e65, e66, e67, e68⟩ := i6
    try dsimp only at *
    refine run_seq ?_
    refine run_region (q_move .n (.t rfl) rfl <|
        q_move .n (.t rfl) rfl <|
        q_idx_ow .n (.t rfl) (.t rfl) sl_28 (fun _ => by omega) rfl <|
        q_st_rowm 0 .n rfl (.t rfl) (.c rfl) rfl ts_2 (by omega) rfl rfl <|
        Lex.nil) ?_
    refine run_seq ?_
    refine run_seq ?_
    refine run_region (q_assign .n (.c rfl) rfl <|
        Lex.nil) ?_
    refine run_block ?_
    refine run_LOOP (m_spec_l04Walk_b2 m_ list from_ to x1) _ _ _ rfl (fun (x2 : (List Int) × Int) => 0 ≤ x2.2 ∧ x2.2 ≤ m_.Junctions ∧ Far m_ list to x2.2 x2.1) (fun x2 => 0 ≤ x2.2 ∧ x2.2 ≤ m_.Junctions ∧ Far m_ list to x2.2 x2.1 ∧ m_.Junctions ≤ x2.2) (fun x2 => (m_.Junctions - x2.2 : Int).toNat) (fun x2 => ⟨[(0, some (true, .rp [.int .i64 m_.Junctions, .sl 7 (m_.Airways.map gAirway.v)])), (1, some (true, .sl 1 (list.map (V.int .i64)))), (2, some (true, .int .i64 from_)), (3, some (true, .int .i64 to)), (10, some (true, .os 200 x2.1.length)), (12, some (true, .int .i64 x2.2))], [(200, some (.row 2 1 (x2.1.map (V.int .i64))))]⟩) (fun x2 => ⟨[(0, some (true, .rp [.int .i64 m_.Junctions, .sl 7 (m_.Airways.map gAirway.v)])), (1, some (true, .sl 1 (list.map (V.int .i64)))), (2, some (true, .int .i64 from_)), (3, some (true, .int .i64 to)), (10, some (true, .os 200 x2.1.length))], [(200, some (.row 2 1 (x2.1.map (V.int .i64))))]⟩) ⟨by omega, by omega, by ((refine Far.start (by omega) (fun j j0 j1 => ?_) (by omega); exact (by assumption : ∀ j, 0 ≤ j → j < x1.2 → at' x1.1 j = -1) j j0 (by omega)))⟩ (by omega) (sub_of [] ⟨rfl, rfl, rfl, rfl, os_len rfl (by first | (simp only [put_len]; done) | (first | omega | assumption | (simp only [List.length_append, List.length_cons, List.length_nil, List.length_replicate, put_len] at * <;> omega) | (((refine Far.start (by omega) (fun j j0 j1 => ?_) (by omega); exact (by assumption : ∀ j, 0 ≤ j → j < x1.2 → at' x1.1 j = -1) j j0 (by omega))); done) | (((intro j j0 j1; (try dsimp only at *); omega)); done) | (((dsimp only; exact neg_app (by assumption) (by omega))); done) | ((exact Far.mono (by assumption) (by omega)); done) | (((have hF : Far m_ list to x2.2 x2.1 := (by assumption); have hl := hF.len; have hu := hF.low from_ hp3.1 hp3.2; first | omega | (simp only [List.length_nil]; omega))); done) | ((exact NoStep.nil); done))), rfl, trivial⟩ ⟨rfl, trivial⟩ rfl) ?_ ?_
    · intro x2 i28
      obtain ⟨e56, e57, e58, e59⟩ := i28
      try dsimp only at *
      refine run_seq ?_
      refine run_seq ?_
      refine run_region (q_move .n (.t rfl) rfl <|
          q_move .n (.t rfl) rfl <|
          q_idx_ow .n (.t rfl) (.t rfl) sl_28 (fun _ => by ((have hF : Far m_ list to x2.2 x2.1 := (by assumption); have hl := hF.len; have hu := hF.low from_ hp3.1 hp3.2; first | omega | (simp only [List.length_nil]; omega)))) rfl <|
          q_ld1_row .n (.t rfl) rfl (fun _ => by ((have hF : Far m_ list to x2.2 x2.1 := (by assumption); have hl := hF.len; have hu := hF.low from_ hp3.1 hp3.2; first | omega | (simp only [List.length_nil]; omega)))) rfl rfl rfl ic_2 rfl <|
          q_int .n (.t rfl) (.c rfl) rfl rfl <|
          Lex.nil) ?_
      refine run_cond (.t rfl) rfl (fun h29 => ?_) (fun h29 => ?_)
      · try simp only [Bool.and_eq_true, Bool.or_eq_true, Bool.not_eq_true', Bool.and_eq_false_iff, Bool.or_eq_false_iff, Bool.not_eq_false', decide_eq_true_eq, decide_eq_false_iff_not, beq_iff_eq, bne_iff_ne, beq_eq_false_iff_ne, bne_eq_false_iff_eq, Bool.true_and, ne_eq, Decidable.not_not, Int.not_lt, Int.not_le, Nat.not_lt, Nat.not_le, strB_nil, strB_nil', strB_nnil, strB_nnil'] at h29
        refine run_seq ?_
        refine run_region (q_assign .n (.c rfl) rfl <|
            q_assign .n (.c rfl) rfl <|
            Lex.nil) ?_
        refine run_sub (sub_adopt (t := 8) (l := 203) (el := 2) (sz := 1) rfl rfl) ?_
        exact run_ret [(100, 203)] (.cons (.t rfl rfl) (.cons (.t rfl rfl) .nil)) (by first | rfl | (simp only [put_len]; rfl)) ⟨rfl, trivial⟩ rfl
      · try simp only [Bool.and_eq_true, Bool.or_eq_true, Bool.not_eq_true', Bool.and_eq_false_iff, Bool.or_eq_false_iff, Bool.not_eq_false', decide_eq_true_eq, decide_eq_false_iff_not, beq_iff_eq, bne_iff_ne, beq_eq_false_iff_ne, bne_eq_false_iff_eq, Bool.true_and, ne_eq, Decidable.not_not, Int.not_lt, Int.not_le, Nat.not_lt, Nat.not_le, strB_nil, strB_nil', strB_nnil, strB_nnil'] at h29
        refine run_skip ?_
        refine run_seq ?_
        refine run_region (q_bslicem ([] : List Int) (f := V.int .i64) (l := 204) .n rfl rfl .nil rfl si_28 zv_2 rfl rfl rfl <|
            q_assign .n (.t rfl) rfl <|
            Lex.nil) ?_
        refine run_seq ?_
        refine run_region (q_move .n (.t rfl) rfl <|
            q_assign .n (.t rfl) rfl <|
            Lex.nil) ?_
        refine run_seq ?_
        refine run_block ?_
        refine run_LOOP (m_spec_l04Walk_b4 m_ list from_ to x1 x2) _ _ _ rfl (fun (x4 : (List Int) × Int) => 0 ≤ x4.2 ∧ x4.2 < m_.Junctions ∧ 0 ≤ at' x2.1 x4.2 ∧ (x4.1.length : Int) + at' x2.1 x4.2 ≤ 16) (fun x4 => 0 ≤ x4.2 ∧ x4.2 < m_.Junctions ∧ 0 ≤ at' x2.1 x4.2 ∧ (x4.1.length : Int) + at' x2.1 x4.2 ≤ 16) (fun x4 => (at' x2.1 x4.2).toNat) (fun x4 => ⟨[(0, some (true, .rp [.int .i64 m_.Junctions, .sl 7 (m_.Airways.map gAirway.v)])), (1, some (true, .sl 1 (list.map (V.int .i64)))), (3, some (true, .int .i64 to)), (10, some (true, .os 200 x2.1.length)), (15, some (true, .os 204 x4.1.length)), (16, some (true, .int .i64 x4.2))], [(200, some (.row 2 1 (x2.1.map (V.int .i64)))), (204, some (.row 2 1 (x4.1.map (V.int .i64))))]⟩) (fun x4 => ⟨[(15, some (true, .os 204 x4.1.length))], [(204, some (.row 2 1 (x4.1.map (V.int .i64))))]⟩) ⟨by omega, by omega, by ((have hF : Far m_ list to x2.2 x2.1 := (by assumption); have hl := hF.len; have hu := hF.low from_ hp3.1 hp3.2; first | omega | (simp only [List.length_nil]; omega)))⟩ (by (simp only [List.length_append, List.length_cons, List.length_nil, List.length_replicate, put_len] at * <;> omega)) (sub_of [] ⟨rfl, rfl, rfl, rfl, rfl, rfl, trivial⟩ ⟨rfl, rfl, trivial⟩ rfl) ?_ ?_
        · intro x4 i49
          obtain ⟨e50, e51, e52⟩ := i49
          try dsimp only at *
          refine run_seq ?_
          refine run_region (q_move .n (.t rfl) rfl <|
              q_assign .n (.t rfl) rfl <|
              q_assign .n (.c rfl) rfl <|
              Lex.nil) ?_
          exact run_ret [(100, 204)] (.cons (.t rfl rfl) (.cons (.t rfl rfl) .nil)) (by first | rfl | (simp only [put_len]; rfl)) ⟨rfl, trivial⟩ rfl
        · intro rec4 k4 hk30 x4 i31
          obtain ⟨e53, e54, e55⟩ := i31
          try dsimp only at *
          refine run_seq ?_
          refine run_seq ?_
          refine run_region (q_move .n (.t rfl) rfl <|
              q_move .n (.t rfl) rfl <|
              q_int .n (.t rfl) (.t rfl) rfl rfl <|
              Lex.nil) ?_
          refine run_cond (.t rfl) rfl (fun h32 => ?_) (fun h32 => ?_)
          · try simp only [Bool.and_eq_true, Bool.or_eq_true, Bool.not_eq_true', Bool.and_eq_false_iff, Bool.or_eq_false_iff, Bool.not_eq_false', decide_eq_true_eq, decide_eq_false_iff_not, beq_iff_eq, bne_iff_ne, beq_eq_false_iff_ne, bne_eq_false_iff_eq, Bool.true_and, ne_eq, Decidable.not_not, Int.not_lt, Int.not_le, Nat.not_lt, Nat.not_le, strB_nil, strB_nil', strB_nnil, strB_nnil'] at h32
            refine run_skip ?_
            refine run_block ?_
            refine run_seq ?_
            refine run_region (q_assign .n (.c rfl) rfl <|
                Lex.nil) ?_
            refine run_block ?_
            refine run_LOOP (m_spec_l04Walk_b5 m_ list from_ to x1 x2 rec4 k4 x4) _ _ _ rfl (fun (x5 : Int × (List Int) × Int) => 0 ≤ x5.1 ∧ x5.1 ≤ (list.length : Int) ∧ x5.2.1.length = x4.1.length ∧ x5.2.2 = x4.2 ∧ (x5.2.1.length : Int) + at' x2.1 x4.2 ≤ 16 ∧ NoStep m_ list x2.1 x4.2 x5.1) (fun x5 => 0 ≤ x5.2.2 ∧ x5.2.2 < m_.Junctions ∧ 0 ≤ at' x2.1 x5.2.2 ∧ at' x2.1 x5.2.2 < at' x2.1 x4.2 ∧ (x5.2.1.length : Int) + at' x2.1 x5.2.2 ≤ 16) (fun x5 => ((list.length : Int) - x5.1 : Int).toNat) (fun x5 => ⟨[(0, some (true, .rp [.int .i64 m_.Junctions, .sl 7 (m_.Airways.map gAirway.v)])), (1, some (true, .sl 1 (list.map (V.int .i64)))), (3, some (true, .int .i64 to)), (10, some (true, .os 200 x2.1.length)), (15, some (true, .os 204 x5.2.1.length)), (16, some (true, .int .i64 x5.2.2)), (17, some (true, .int .i64 x5.1))], [(200, some (.row 2 1 (x2.1.map (V.int .i64)))), (204, some (.row 2 1 (x5.2.1.map (V.int .i64))))]⟩) (fun x5 => ⟨[(0, some (true, .rp [.int .i64 m_.Junctions, .sl 7 (m_.Airways.map gAirway.v)])), (1, some (true, .sl 1 (list.map (V.int .i64)))), (3, some (true, .int .i64 to)), (10, some (true, .os 200 x2.1.length)), (15, some (true, .os 204 x5.2.1.length)), (16, some (true, .int .i64 x5.2.2))], [(200, some (.row 2 1 (x2.1.map (V.int .i64)))), (204, some (.row 2 1 (x5.2.1.map (V.int .i64))))]⟩) ⟨by omega, by omega, by (simp only [List.length_append, List.length_cons, List.length_nil, List.length_replicate, put_len] at * <;> omega), by (simp only [List.length_append, List.length_cons, List.length_nil, List.length_replicate, put_len] at * <;> omega), by (simp only [List.length_append, List.length_cons, List.length_nil, List.length_replicate, put_len] at * <;> omega), by ((intro j j0 j1; (try dsimp only at *); omega))⟩ (by omega) (sub_of [] ⟨rfl, rfl, rfl, rfl, rfl, rfl, rfl, trivial⟩ ⟨rfl, rfl, trivial⟩ rfl) ?_ ?_
            · intro x5 i38
              obtain ⟨e39, e40, e41, e42⟩ := i38
              try dsimp only at *
              refine run_endB ?_
              exact run_again (x5.2.1, x5.2.2) ⟨by omega, by omega, by (simp only [List.length_append, List.length_cons, List.length_nil, List.length_replicate, put_len] at * <;> omega)⟩ (by (simp only [List.length_append, List.length_cons, List.length_nil, List.length_replicate, put_len] at * <;> omega)) (sub_of [] ⟨rfl, rfl, rfl, rfl, rfl, rfl, trivial⟩ ⟨rfl, rfl, trivial⟩ rfl)
            · intro rec5 k5 hk33 x5 i34
              obtain ⟨e43, e44, e45, e46, e47, e48⟩ := i34
              try dsimp only at *
              refine run_seq ?_
              refine run_seq ?_
              refine run_region (q_move .n (.t rfl) rfl <|
                  q_move .n (.t rfl) rfl <|
                  q_len .n (.t rfl) rfl len_map ss_28 rfl <|
                  q_int .n (.t rfl) (.t rfl) rfl rfl <|
                  Lex.nil) ?_
              refine run_cond (.t rfl) rfl (fun h35 => ?_) (fun h35 => ?_)
              · try simp only [Bool.and_eq_true, Bool.or_eq_true, Bool.not_eq_true', Bool.and_eq_false_iff, Bool.or_eq_false_iff, Bool.not_eq_false', decide_eq_true_eq, decide_eq_false_iff_not, beq_iff_eq, bne_iff_ne, beq_eq_false_iff_ne, bne_eq_false_iff_eq, Bool.true_and, ne_eq, Decidable.not_not, Int.not_lt, Int.not_le, Nat.not_lt, Nat.not_le, strB_nil, strB_nil', strB_nnil, strB_nnil'] at h35
                refine run_skip ?_
                refine run_seq ?_
                refine run_block ?_
                refine run_seq ?_
                refine run_draw fmo (q_move .n (.t rfl) rfl <|
                    q_nilc_ro .n (.t rfl) rfl <|
                    q_fld_ro .n (.t rfl) fo_26_1 rfl <|
                    q_ld1_ro .n (.t rfl) rfl ic_24 rfl <|
                    q_move .n (.t rfl) rfl <|
                    q_move .n (.t rfl) rfl <|
                    q_idx_rm .n (.t rfl) (.t rfl) sl_28 (fun _ => by omega) rfl <|
                    q_ld1_ro .n (.t rfl) rfl ic_2 rfl <|
                    q_idx_rm .n (.t rfl) (.t rfl) sl_24 (fun _ => by ((have hF : Far m_ list to x2.2 x2.1 := (by assumption); have hl := hF.len; have hu := hF.low x4.2 (by omega) (by omega); have h0 := hF.pos (j := x4.2) (by omega) (by omega) (by omega); have hq := ListIn.air hp1 hp2 (i := x5.1) (by omega); have hr := ListIn.at hp2 (i := x5.1) (by omega); have he : at' x2.1 x5.2.2 = at' x2.1 x4.2 := (by rw [show x5.2.2 = x4.2 by assumption]); have hw := wr64 (n := at' x2.1 x5.2.2 - 1) (by omega); first | omega | (dsimp only; omega) | (simp only [List.length_append, List.length_cons, List.length_nil]; omega)))) rfl <|
                    q_assign .n (.t rfl) rfl <|
                    Lex.nil) (by kernel_rfl) ?_
                refine run_seq ?_
                refine run_seq ?_
                refine run_draw fmo (q_move .n (.t rfl) rfl <|
                    q_nilc_ro .n (.t rfl) rfl <|
                    q_fld_ro .n (.t rfl) fo_46_1 rfl <|
                    q_ld1_ro .n (.t rfl) rfl ic_2 rfl <|
                    q_move .n (.t rfl) rfl <|
                    q_int .n (.t rfl) (.t rfl) rfl rfl <|
                    q_move .n (.t rfl) rfl <|
                    q_move (.t rfl rfl) (.t rfl) rfl <|
                    q_move (.t rfl rfl) (.t rfl) rfl <|
                    q_nilc_ro (.t rfl rfl) (.u rfl id) rfl <|
                    q_fld_ro (.t rfl rfl) (.u rfl id) fo_46_2 rfl <|
                    q_ld1_ro (.t rfl rfl) (.u rfl id) rfl ic_2 rfl <|
                    q_idx_ow (.t rfl rfl) (.u rfl id) (.u rfl id) sl_28 (fun hg => by simp only [Bool.and_eq_true, Bool.or_eq_true, Bool.not_eq_true', Bool.and_eq_false_iff, Bool.or_eq_false_iff, Bool.not_eq_false', decide_eq_true_eq, decide_eq_false_iff_not, beq_iff_eq, bne_iff_ne, beq_eq_false_iff_ne, bne_eq_false_iff_eq, Bool.true_and, ne_eq, Decidable.not_not, Int.not_lt, Int.not_le, Nat.not_lt, Nat.not_le, strB_nil, strB_nil', strB_nnil, strB_nnil'] at hg; ((have hF : Far m_ list to x2.2 x2.1 := (by assumption); have hl := hF.len; have hu := hF.low x4.2 (by omega) (by omega); have h0 := hF.pos (j := x4.2) (by omega) (by omega) (by omega); have hq := ListIn.air hp1 hp2 (i := x5.1) (by omega); have hr := ListIn.at hp2 (i := x5.1) (by omega); have he : at' x2.1 x5.2.2 = at' x2.1 x4.2 := (by rw [show x5.2.2 = x4.2 by assumption]); have hw := wr64 (n := at' x2.1 x5.2.2 - 1) (by omega); first | omega | (dsimp only; omega) | (simp only [List.length_append, List.length_cons, List.length_nil]; omega)))) rfl <|
                    q_ld1_row (.t rfl rfl) (.u rfl id) rfl (fun hg => by simp only [Bool.and_eq_true, Bool.or_eq_true, Bool.not_eq_true', Bool.and_eq_false_iff, Bool.or_eq_false_iff, Bool.not_eq_false', decide_eq_true_eq, decide_eq_false_iff_not, beq_iff_eq, bne_iff_ne, beq_eq_false_iff_ne, bne_eq_false_iff_eq, Bool.true_and, ne_eq, Decidable.not_not, Int.not_lt, Int.not_le, Nat.not_lt, Nat.not_le, strB_nil, strB_nil', strB_nnil, strB_nnil'] at hg; ((have hF : Far m_ list to x2.2 x2.1 := (by assumption); have hl := hF.len; have hu := hF.low x4.2 (by omega) (by omega); have h0 := hF.pos (j := x4.2) (by omega) (by omega) (by omega); have hq := ListIn.air hp1 hp2 (i := x5.1) (by omega); have hr := ListIn.at hp2 (i := x5.1) (by omega); have he : at' x2.1 x5.2.2 = at' x2.1 x4.2 := (by rw [show x5.2.2 = x4.2 by assumption]); have hw := wr64 (n := at' x2.1 x5.2.2 - 1) (by omega); first | omega | (dsimp only; omega) | (simp only [List.length_append, List.length_cons, List.length_nil]; omega)))) rfl rfl rfl ic_2 rfl <|
                    q_move (.t rfl rfl) (.t rfl) rfl <|
                    q_move (.t rfl rfl) (.t rfl) rfl <|
                    q_idx_ow (.t rfl rfl) (.u rfl id) (.u rfl id) sl_28 (fun hg => by simp only [Bool.and_eq_true, Bool.or_eq_true, Bool.not_eq_true', Bool.and_eq_false_iff, Bool.or_eq_false_iff, Bool.not_eq_false', decide_eq_true_eq, decide_eq_false_iff_not, beq_iff_eq, bne_iff_ne, beq_eq_false_iff_ne, bne_eq_false_iff_eq, Bool.true_and, ne_eq, Decidable.not_not, Int.not_lt, Int.not_le, Nat.not_lt, Nat.not_le, strB_nil, strB_nil', strB_nnil, strB_nnil'] at hg; ((have hF : Far m_ list to x2.2 x2.1 := (by assumption); have hl := hF.len; have hu := hF.low from_ hp3.1 hp3.2; first | omega | (simp only [List.length_nil]; omega)))) rfl <|
                    q_ld1_row (.t rfl rfl) (.u rfl id) rfl (fun hg => by simp only [Bool.and_eq_true, Bool.or_eq_true, Bool.not_eq_true', Bool.and_eq_false_iff, Bool.or_eq_false_iff, Bool.not_eq_false', decide_eq_true_eq, decide_eq_false_iff_not, beq_iff_eq, bne_iff_ne, beq_eq_false_iff_ne, bne_eq_false_iff_eq, Bool.true_and, ne_eq, Decidable.not_not, Int.not_lt, Int.not_le, Nat.not_lt, Nat.not_le, strB_nil, strB_nil', strB_nnil, strB_nnil'] at hg; ((have hF : Far m_ list to x2.2 x2.1 := (by assumption); have hl := hF.len; have hu := hF.low from_ hp3.1 hp3.2; first | omega | (simp only [List.length_nil]; omega)))) rfl rfl rfl ic_2 rfl <|
                    q_int (.t rfl rfl) (.u rfl id) (.c rfl) rfl rfl <|
                    q_int (.t rfl rfl) (.u rfl id) (.u rfl id) rfl rfl <|
                    q_and .n (.t rfl) (.u rfl id) rfl <|
                    Lex.nil) (by kernel_rfl) ?_
                refine run_cond (.t rfl) rfl (fun h36 => ?_) (fun h36 => ?_)
                · try simp only [Bool.and_eq_true, Bool.or_eq_true, Bool.not_eq_true', Bool.and_eq_false_iff, Bool.or_eq_false_iff, Bool.not_eq_false', decide_eq_true_eq, decide_eq_false_iff_not, beq_iff_eq, bne_iff_ne, beq_eq_false_iff_ne, bne_eq_false_iff_eq, Bool.true_and, ne_eq, Decidable.not_not, Int.not_lt, Int.not_le, Nat.not_lt, Nat.not_le, strB_nil, strB_nil', strB_nnil, strB_nnil'] at h36
                  refine run_seq ?_
                  refine run_region (q_move .n (.t rfl) rfl <|
                      q_move .n (.t rfl) rfl <|
                      q_move .n (.t rfl) rfl <|
                      q_idx_rm .n (.t rfl) (.t rfl) sl_28 (fun _ => by omega) rfl <|
                      q_ld1_ro .n (.t rfl) rfl ic_2 rfl <|
                      q_int .n (.t rfl) (.c rfl) rfl rfl <|
                      q_bslicem ([IntKind.wrap .i64 ((at' list x5.1) + 1)] : List Int) (f := V.int .i64) (l := 205) .n rfl rfl (.cons (.t rfl) .nil) rfl si_28 zv_2 rfl rfl rfl <|
                      q_appm (xs := x5.2.1) (ys := ([IntKind.wrap .i64 ((at' list x5.1) + 1)] : List Int)) (f := V.int .i64) (l := 206) .n rfl (.ow (.t rfl) rfl (take_all (by simp only [len_map, put_len] <;> rfl)) (by simp only [len_map, put_len] <;> rfl)) (.ow (.t rfl) rfl (take_all (by simp only [len_map, put_len] <;> rfl)) (by simp only [len_map, put_len] <;> rfl)) si_28 zv_2 rfl (by (simp only [List.length_append, List.length_cons, List.length_nil, List.length_replicate, put_len] at * <;> omega)) rfl rfl <|
                      q_assign .n (.t rfl) rfl <|
                      Lex.nil) ?_
                  refine run_seq ?_
                  refine run_region (q_move .n (.t rfl) rfl <|
                      q_nilc_ro .n (.t rfl) rfl <|
                      q_fld_ro .n (.t rfl) fo_46_2 rfl <|
                      q_ld1_ro .n (.t rfl) rfl ic_2 rfl <|
                      q_assign .n (.t rfl) rfl <|
                      Lex.nil) ?_
                  refine run_exit rfl ?_
                  exact run_cont hk33 (x5.1, x5.2.1 ++ ([IntKind.wrap .i64 ((at' list x5.1) + 1)] : List Int), (at' m_.Airways (at' list x5.1)).To) ⟨by ((have hF : Far m_ list to x2.2 x2.1 := (by assumption); have hl := hF.len; have hu := hF.low x4.2 (by omega) (by omega); have h0 := hF.pos (j := x4.2) (by omega) (by omega) (by omega); have hq := ListIn.air hp1 hp2 (i := x5.1) (by omega); have hr := ListIn.at hp2 (i := x5.1) (by omega); have he : at' x2.1 x5.2.2 = at' x2.1 x4.2 := (by rw [show x5.2.2 = x4.2 by assumption]); have hw := wr64 (n := at' x2.1 x5.2.2 - 1) (by omega); first | omega | (dsimp only; omega) | (simp only [List.length_append, List.length_cons, List.length_nil]; omega))), by ((have hF : Far m_ list to x2.2 x2.1 := (by assumption); have hl := hF.len; have hu := hF.low x4.2 (by omega) (by omega); have h0 := hF.pos (j := x4.2) (by omega) (by omega) (by omega); have hq := ListIn.air hp1 hp2 (i := x5.1) (by omega); have hr := ListIn.at hp2 (i := x5.1) (by omega); have he : at' x2.1 x5.2.2 = at' x2.1 x4.2 := (by rw [show x5.2.2 = x4.2 by assumption]); have hw := wr64 (n := at' x2.1 x5.2.2 - 1) (by omega); first | omega | (dsimp only; omega) | (simp only [List.length_append, List.length_cons, List.length_nil]; omega))), by ((have hF : Far m_ list to x2.2 x2.1 := (by assumption); have hl := hF.len; have hu := hF.low x4.2 (by omega) (by omega); have h0 := hF.pos (j := x4.2) (by omega) (by omega) (by omega); have hq := ListIn.air hp1 hp2 (i := x5.1) (by omega); have hr := ListIn.at hp2 (i := x5.1) (by omega); have he : at' x2.1 x5.2.2 = at' x2.1 x4.2 := (by rw [show x5.2.2 = x4.2 by assumption]); have hw := wr64 (n := at' x2.1 x5.2.2 - 1) (by omega); first | omega | (dsimp only; omega) | (simp only [List.length_append, List.length_cons, List.length_nil]; omega))), by ((have hF : Far m_ list to x2.2 x2.1 := (by assumption); have hl := hF.len; have hu := hF.low x4.2 (by omega) (by omega); have h0 := hF.pos (j := x4.2) (by omega) (by omega) (by omega); have hq := ListIn.air hp1 hp2 (i := x5.1) (by omega); have hr := ListIn.at hp2 (i := x5.1) (by omega); have he : at' x2.1 x5.2.2 = at' x2.1 x4.2 := (by rw [show x5.2.2 = x4.2 by assumption]); have hw := wr64 (n := at' x2.1 x5.2.2 - 1) (by omega); first | omega | (dsimp only; omega) | (simp only [List.length_append, List.length_cons, List.length_nil]; omega)))⟩ (sub_of [(204, 206)] ⟨rfl, rfl, rfl, rfl, rfl, rfl, trivial⟩ ⟨rfl, rfl, trivial⟩ rfl)
                · try simp only [Bool.and_eq_true, Bool.or_eq_true, Bool.not_eq_true', Bool.and_eq_false_iff, Bool.or_eq_false_iff, Bool.not_eq_false', decide_eq_true_eq, decide_eq_false_iff_not, beq_iff_eq, bne_iff_ne, beq_eq_false_iff_ne, bne_eq_false_iff_eq, Bool.true_and, ne_eq, Decidable.not_not, Int.not_lt, Int.not_le, Nat.not_lt, Nat.not_le, strB_nil, strB_nil', strB_nnil, strB_nnil'] at h36
                  refine run_skip ?_
                  refine run_seq ?_
                  refine run_draw fmo (q_move .n (.t rfl) rfl <|
                      q_nilc_ro .n (.t rfl) rfl <|
                      q_fld_ro .n (.t rfl) fo_46_2 rfl <|
                      q_ld1_ro .n (.t rfl) rfl ic_2 rfl <|
                      q_move .n (.t rfl) rfl <|
                      q_int .n (.t rfl) (.t rfl) rfl rfl <|
                      q_move .n (.t rfl) rfl <|
                      q_move (.t rfl rfl) (.t rfl) rfl <|
                      q_move (.t rfl rfl) (.t rfl) rfl <|
                      q_nilc_ro (.t rfl rfl) (.u rfl id) rfl <|
                      q_fld_ro (.t rfl rfl) (.u rfl id) fo_46_1 rfl <|
                      q_ld1_ro (.t rfl rfl) (.u rfl id) rfl ic_2 rfl <|
                      q_idx_ow (.t rfl rfl) (.u rfl id) (.u rfl id) sl_28 (fun hg => by simp only [Bool.and_eq_true, Bool.or_eq_true, Bool.not_eq_true', Bool.and_eq_false_iff, Bool.or_eq_false_iff, Bool.not_eq_false', decide_eq_true_eq, decide_eq_false_iff_not, beq_iff_eq, bne_iff_ne, beq_eq_false_iff_ne, bne_eq_false_iff_eq, Bool.true_and, ne_eq, Decidable.not_not, Int.not_lt, Int.not_le, Nat.not_lt, Nat.not_le, strB_nil, strB_nil', strB_nnil, strB_nnil'] at hg; ((have hF : Far m_ list to x2.2 x2.1 := (by assumption); have hl := hF.len; have hu := hF.low x4.2 (by omega) (by omega); have h0 := hF.pos (j := x4.2) (by omega) (by omega) (by omega); have hq := ListIn.air hp1 hp2 (i := x5.1) (by omega); have hr := ListIn.at hp2 (i := x5.1) (by omega); have he : at' x2.1 x5.2.2 = at' x2.1 x4.2 := (by rw [show x5.2.2 = x4.2 by assumption]); have hw := wr64 (n := at' x2.1 x5.2.2 - 1) (by omega); first | omega | (dsimp only; omega) | (simp only [List.length_append, List.length_cons, List.length_nil]; omega)))) rfl <|
                      q_ld1_row (.t rfl rfl) (.u rfl id) rfl (fun hg => by simp only [Bool.and_eq_true, Bool.or_eq_true, Bool.not_eq_true', Bool.and_eq_false_iff, Bool.or_eq_false_iff, Bool.not_eq_false', decide_eq_true_eq, decide_eq_false_iff_not, beq_iff_eq, bne_iff_ne, beq_eq_false_iff_ne, bne_eq_false_iff_eq, Bool.true_and, ne_eq, Decidable.not_not, Int.not_lt, Int.not_le, Nat.not_lt, Nat.not_le, strB_nil, strB_nil', strB_nnil, strB_nnil'] at hg; ((have hF : Far m_ list to x2.2 x2.1 := (by assumption); have hl := hF.len; have hu := hF.low x4.2 (by omega) (by omega); have h0 := hF.pos (j := x4.2) (by omega) (by omega) (by omega); have hq := ListIn.air hp1 hp2 (i := x5.1) (by omega); have hr := ListIn.at hp2 (i := x5.1) (by omega); have he : at' x2.1 x5.2.2 = at' x2.1 x4.2 := (by rw [show x5.2.2 = x4.2 by assumption]); have hw := wr64 (n := at' x2.1 x5.2.2 - 1) (by omega); first | omega | (dsimp only; omega) | (simp only [List.length_append, List.length_cons, List.length_nil]; omega)))) rfl rfl rfl ic_2 rfl <|
                      q_move (.t rfl rfl) (.t rfl) rfl <|
                      q_move (.t rfl rfl) (.t rfl) rfl <|
                      q_idx_ow (.t rfl rfl) (.u rfl id) (.u rfl id) sl_28 (fun hg => by simp only [Bool.and_eq_true, Bool.or_eq_true, Bool.not_eq_true', Bool.and_eq_false_iff, Bool.or_eq_false_iff, Bool.not_eq_false', decide_eq_true_eq, decide_eq_false_iff_not, beq_iff_eq, bne_iff_ne, beq_eq_false_iff_ne, bne_eq_false_iff_eq, Bool.true_and, ne_eq, Decidable.not_not, Int.not_lt, Int.not_le, Nat.not_lt, Nat.not_le, strB_nil, strB_nil', strB_nnil, strB_nnil'] at hg; ((have hF : Far m_ list to x2.2 x2.1 := (by assumption); have hl := hF.len; have hu := hF.low from_ hp3.1 hp3.2; first | omega | (simp only [List.length_nil]; omega)))) rfl <|
                      q_ld1_row (.t rfl rfl) (.u rfl id) rfl (fun hg => by simp only [Bool.and_eq_true, Bool.or_eq_true, Bool.not_eq_true', Bool.and_eq_false_iff, Bool.or_eq_false_iff, Bool.not_eq_false', decide_eq_true_eq, decide_eq_false_iff_not, beq_iff_eq, bne_iff_ne, beq_eq_false_iff_ne, bne_eq_false_iff_eq, Bool.true_and, ne_eq, Decidable.not_not, Int.not_lt, Int.not_le, Nat.not_lt, Nat.not_le, strB_nil, strB_nil', strB_nnil, strB_nnil'] at hg; ((have hF : Far m_ list to x2.2 x2.1 := (by assumption); have hl := hF.len; have hu := hF.low from_ hp3.1 hp3.2; first | omega | (simp only [List.length_nil]; omega)))) rfl rfl rfl ic_2 rfl <|
                      q_int (.t rfl rfl) (.u rfl id) (.c rfl) rfl rfl <|
                      q_int (.t rfl rfl) (.u rfl id) (.u rfl id) rfl rfl <|
                      q_and .n (.t rfl) (.u rfl id) rfl <|
                      Lex.nil) (by kernel_rfl) ?_
                  refine run_cond (.t rfl) rfl (fun h37 => ?_) (fun h37 => ?_)
                  · try simp only [Bool.and_eq_true, Bool.or_eq_true, Bool.not_eq_true', Bool.and_eq_false_iff, Bool.or_eq_false_iff, Bool.not_eq_false', decide_eq_true_eq, decide_eq_false_iff_not, beq_iff_eq, bne_iff_ne, beq_eq_false_iff_ne, bne_eq_false_iff_eq, Bool.true_and, ne_eq, Decidable.not_not, Int.not_lt, Int.not_le, Nat.not_lt, Nat.not_le, strB_nil, strB_nil', strB_nnil, strB_nnil'] at h37
                    refine run_seq ?_
                    refine run_region (q_move .n (.t rfl) rfl <|
                        q_move .n (.t rfl) rfl <|
                        q_move .n (.t rfl) rfl <|
                        q_idx_rm .n (.t rfl) (.t rfl) sl_28 (fun _ => by omega) rfl <|
                        q_ld1_ro .n (.t rfl) rfl ic_2 rfl <|
                        q_neg .n (.t rfl) rfl <|
                        q_int .n (.t rfl) (.c rfl) rfl rfl <|
                        q_bslicem ([IntKind.wrap .i64 ((IntKind.wrap .i64 (0 - (at' list x5.1))) - 1)] : List Int) (f := V.int .i64) (l := 207) .n rfl rfl (.cons (.t rfl) .nil) rfl si_28 zv_2 rfl rfl rfl <|
                        q_appm (xs := x5.2.1) (ys := ([IntKind.wrap .i64 ((IntKind.wrap .i64 (0 - (at' list x5.1))) - 1)] : List Int)) (f := V.int .i64) (l := 208) .n rfl (.ow (.t rfl) rfl (take_all (by simp only [len_map, put_len] <;> rfl)) (by simp only [len_map, put_len] <;> rfl)) (.ow (.t rfl) rfl (take_all (by simp only [len_map, put_len] <;> rfl)) (by simp only [len_map, put_len] <;> rfl)) si_28 zv_2 rfl (by (simp only [List.length_append, List.length_cons, List.length_nil, List.length_replicate, put_len] at * <;> omega)) rfl rfl <|
                        q_assign .n (.t rfl) rfl <|
                        Lex.nil) ?_
                    refine run_seq ?_
                    refine run_region (q_move .n (.t rfl) rfl <|
                        q_nilc_ro .n (.t rfl) rfl <|
                        q_fld_ro .n (.t rfl) fo_46_1 rfl <|
                        q_ld1_ro .n (.t rfl) rfl ic_2 rfl <|
                        q_assign .n (.t rfl) rfl <|
                        Lex.nil) ?_
                    refine run_exit rfl ?_
                    exact run_cont hk33 (x5.1, x5.2.1 ++ ([IntKind.wrap .i64 ((IntKind.wrap .i64 (0 - (at' list x5.1))) - 1)] : List Int), (at' m_.Airways (at' list x5.1)).From) ⟨by ((have hF : Far m_ list to x2.2 x2.1 := (by assumption); have hl := hF.len; have hu := hF.low x4.2 (by omega) (by omega); have h0 := hF.pos (j := x4.2) (by omega) (by omega) (by omega); have hq := ListIn.air hp1 hp2 (i := x5.1) (by omega); have hr := ListIn.at hp2 (i := x5.1) (by omega); have he : at' x2.1 x5.2.2 = at' x2.1 x4.2 := (by rw [show x5.2.2 = x4.2 by assumption]); have hw := wr64 (n := at' x2.1 x5.2.2 - 1) (by omega); first | omega | (dsimp only; omega) | (simp only [List.length_append, List.length_cons, List.length_nil]; omega))), by ((have hF : Far m_ list to x2.2 x2.1 := (by assumption); have hl := hF.len; have hu := hF.low x4.2 (by omega) (by omega); have h0 := hF.pos (j := x4.2) (by omega) (by omega) (by omega); have hq := ListIn.air hp1 hp2 (i := x5.1) (by omega); have hr := ListIn.at hp2 (i := x5.1) (by omega); have he : at' x2.1 x5.2.2 = at' x2.1 x4.2 := (by rw [show x5.2.2 = x4.2 by assumption]); have hw := wr64 (n := at' x2.1 x5.2.2 - 1) (by omega); first | omega | (dsimp only; omega) | (simp only [List.length_append, List.length_cons, List.length_nil]; omega))), by ((have hF : Far m_ list to x2.2 x2.1 := (by assumption); have hl := hF.len; have hu := hF.low x4.2 (by omega) (by omega); have h0 := hF.pos (j := x4.2) (by omega) (by omega) (by omega); have hq := ListIn.air hp1 hp2 (i := x5.1) (by omega); have hr := ListIn.at hp2 (i := x5.1) (by omega); have he : at' x2.1 x5.2.2 = at' x2.1 x4.2 := (by rw [show x5.2.2 = x4.2 by assumption]); have hw := wr64 (n := at' x2.1 x5.2.2 - 1) (by omega); first | omega | (dsimp only; omega) | (simp only [List.length_append, List.length_cons, List.length_nil]; omega))), by ((have hF : Far m_ list to x2.2 x2.1 := (by assumption); have hl := hF.len; have hu := hF.low x4.2 (by omega) (by omega); have h0 := hF.pos (j := x4.2) (by omega) (by omega) (by omega); have hq := ListIn.air hp1 hp2 (i := x5.1) (by omega); have hr := ListIn.at hp2 (i := x5.1) (by omega); have he : at' x2.1 x5.2.2 = at' x2.1 x4.2 := (by rw [show x5.2.2 = x4.2 by assumption]); have hw := wr64 (n := at' x2.1 x5.2.2 - 1) (by omega); first | omega | (dsimp only; omega) | (simp only [List.length_append, List.length_cons, List.length_nil]; omega)))⟩ (sub_of [(204, 208)] ⟨rfl, rfl, rfl, rfl, rfl, rfl, trivial⟩ ⟨rfl, rfl, trivial⟩ rfl)
                  · try simp only [Bool.and_eq_true, Bool.or_eq_true, Bool.not_eq_true', Bool.and_eq_false_iff, Bool.or_eq_false_iff, Bool.not_eq_false', decide_eq_true_eq, decide_eq_false_iff_not, beq_iff_eq, bne_iff_ne, beq_eq_false_iff_ne, bne_eq_false_iff_eq, Bool.true_and, ne_eq, Decidable.not_not, Int.not_lt, Int.not_le, Nat.not_lt, Nat.not_le, strB_nil, strB_nil', strB_nnil, strB_nnil'] at h37
                    refine run_skip ?_
                    refine run_endB ?_
                    refine run_region (q_move .n (.t rfl) rfl <|
                        q_add .n (.t rfl) (.c rfl) (fun _ => by omega) rfl <|
                        q_assign .n (.t rfl) rfl <|
                        Lex.nil) ?_
                    exact run_again (x5.1 + 1, x5.2.1, x5.2.2) ⟨by omega, by omega, by omega, by omega, by omega, by ((have hF : Far m_ list to x2.2 x2.1 := (by assumption); have hl := hF.len; have hu := hF.low x4.2 (by omega) (by omega); have h0 := hF.pos (j := x4.2) (by omega) (by omega) (by omega); have hq := ListIn.air hp1 hp2 (i := x5.1) (by omega); have hr := ListIn.at hp2 (i := x5.1) (by omega); have he : at' x2.1 x5.2.2 = at' x2.1 x4.2 := (by rw [show x5.2.2 = x4.2 by assumption]); have hw := wr64 (n := at' x2.1 x5.2.2 - 1) (by omega); exact NoStep.skip (by assumption) (fun hS => by unfold StepTo at hS; omega)))⟩ (by omega) (sub_of [] ⟨rfl, rfl, rfl, rfl, rfl, rfl, rfl, trivial⟩ ⟨rfl, rfl, trivial⟩ rfl)
              · try simp only [Bool.and_eq_true, Bool.or_eq_true, Bool.not_eq_true', Bool.and_eq_false_iff, Bool.or_eq_false_iff, Bool.not_eq_false', decide_eq_true_eq, decide_eq_false_iff_not, beq_iff_eq, bne_iff_ne, beq_eq_false_iff_ne, bne_eq_false_iff_eq, Bool.true_and, ne_eq, Decidable.not_not, Int.not_lt, Int.not_le, Nat.not_lt, Nat.not_le, strB_nil, strB_nil', strB_nnil, strB_nnil'] at h35
                refine run_exit rfl ?_
                exact run_cont hk33 (x5.1, x5.2.1, x5.2.2) ⟨by (simp only [List.length_append, List.length_cons, List.length_nil, List.length_replicate, put_len] at * <;> omega), by (simp only [List.length_append, List.length_cons, List.length_nil, List.length_replicate, put_len] at * <;> omega), by (exact (Far.stuck (n := x5.1) (j := x4.2) (by assumption) (by omega) (by omega) (by omega) (by omega) (by assumption)).elim), by (exact (Far.stuck (n := x5.1) (j := x4.2) (by assumption) (by omega) (by omega) (by omega) (by omega) (by assumption)).elim)⟩ (sub_of [] ⟨rfl, rfl, rfl, rfl, rfl, rfl, trivial⟩ ⟨rfl, rfl, trivial⟩ rfl)
          · try simp only [Bool.and_eq_true, Bool.or_eq_true, Bool.not_eq_true', Bool.and_eq_false_iff, Bool.or_eq_false_iff, Bool.not_eq_false', decide_eq_true_eq, decide_eq_false_iff_not, beq_iff_eq, bne_iff_ne, beq_eq_false_iff_ne, bne_eq_false_iff_eq, Bool.true_and, ne_eq, Decidable.not_not, Int.not_lt, Int.not_le, Nat.not_lt, Nat.not_le, strB_nil, strB_nil', strB_nnil, strB_nnil'] at h32
            refine run_exit rfl ?_
            exact run_cont hk30 (x4.1, x4.2) ⟨by omega, by omega, by omega⟩ (sub_of [] ⟨rfl, trivial⟩ ⟨rfl, trivial⟩ rfl)
    · intro rec2 k2 hk7 x2 i8
      obtain ⟨e60, e61, e62⟩ := i8
      try dsimp only at *
      refine run_seq ?_
      refine run_seq ?_
      refine run_region (q_move .n (.t rfl) rfl <|
          q_move .n (.t rfl) rfl <|
          q_nilc_ro .n (.t rfl) rfl <|
          q_fld_ro .n (.t rfl) fo_26_0 rfl <|
          q_ld1_ro .n (.t rfl) rfl ic_2 rfl <|
          q_int .n (.t rfl) (.t rfl) rfl rfl <|
          Lex.nil) ?_
      refine run_cond (.t rfl) rfl (fun h9 => ?_) (fun h9 => ?_)
      · try simp only [Bool.and_eq_true, Bool.or_eq_true, Bool.not_eq_true', Bool.and_eq_false_iff, Bool.or_eq_false_iff, Bool.not_eq_false', decide_eq_true_eq, decide_eq_false_iff_not, beq_iff_eq, bne_iff_ne, beq_eq_false_iff_ne, bne_eq_false_iff_eq, Bool.true_and, ne_eq, Decidable.not_not, Int.not_lt, Int.not_le, Nat.not_lt, Nat.not_le, strB_nil, strB_nil', strB_nnil, strB_nnil'] at h9
        refine run_skip ?_
        refine run_seq ?_
        refine run_block ?_
        refine run_seq ?_
        refine run_region (q_assign .n (.c rfl) rfl <|
            Lex.nil) ?_
        refine run_block ?_
        refine run_LOOP (m_spec_l04Walk_b3 m_ list from_ to x1 rec2 k2 x2) _ _ _ rfl (fun (x3 : (List Int) × Int) => 0 ≤ x3.2 ∧ x3.2 ≤ (list.length : Int) ∧ Far m_ list to (x2.2 + 1) x3.1) (fun x3 => 0 ≤ x3.2 ∧ x3.2 ≤ (list.length : Int) ∧ Far m_ list to (x2.2 + 1) x3.1 ∧ (list.length : Int) ≤ x3.2) (fun x3 => ((list.length : Int) - x3.2 : Int).toNat) (fun x3 => ⟨[(0, some (true, .rp [.int .i64 m_.Junctions, .sl 7 (m_.Airways.map gAirway.v)])), (1, some (true, .sl 1 (list.map (V.int .i64)))), (2, some (true, .int .i64 from_)), (3, some (true, .int .i64 to)), (10, some (true, .os 200 x3.1.length)), (12, some (true, .int .i64 x2.2)), (13, some (true, .int .i64 x3.2))], [(200, some (.row 2 1 (x3.1.map (V.int .i64))))]⟩) (fun x3 => ⟨[(0, some (true, .rp [.int .i64 m_.Junctions, .sl 7 (m_.Airways.map gAirway.v)])), (1, some (true, .sl 1 (list.map (V.int .i64)))), (2, some (true, .int .i64 from_)), (3, some (true, .int .i64 to)), (10, some (true, .os 200 x3.1.length)), (12, some (true, .int .i64 x2.2))], [(200, some (.row 2 1 (x3.1.map (V.int .i64))))]⟩) ⟨by omega, by omega, by (exact Far.mono (by assumption) (by omega))⟩ (by omega) (sub_of [] ⟨rfl, rfl, rfl, rfl, rfl, rfl, rfl, trivial⟩ ⟨rfl, trivial⟩ rfl) ?_ ?_
        · intro x3 i20
          obtain ⟨e21, e22, e23, e24⟩ := i20
          try dsimp only at *
          refine run_endB ?_
          refine run_region (q_move .n (.t rfl) rfl <|
              q_add .n (.t rfl) (.c rfl) (fun _ => by omega) rfl <|
              q_assign .n (.t rfl) rfl <|
              Lex.nil) ?_
          exact run_again (x3.1, x2.2 + 1) ⟨by omega, by omega, by omega⟩ (by omega) (sub_of [] ⟨rfl, rfl, rfl, rfl, rfl, rfl, trivial⟩ ⟨rfl, trivial⟩ rfl)
        · intro rec3 k3 hk10 x3 i11
          obtain ⟨e25, e26, e27⟩ := i11
          try dsimp only at *
          refine run_seq ?_
          refine run_seq ?_
          refine run_region (q_move .n (.t rfl) rfl <|
              q_move .n (.t rfl) rfl <|
              q_len .n (.t rfl) rfl len_map ss_28 rfl <|
              q_int .n (.t rfl) (.t rfl) rfl rfl <|
              Lex.nil) ?_
          refine run_cond (.t rfl) rfl (fun h12 => ?_) (fun h12 => ?_)
          · try simp only [Bool.and_eq_true, Bool.or_eq_true, Bool.not_eq_true', Bool.and_eq_false_iff, Bool.or_eq_false_iff, Bool.not_eq_false', decide_eq_true_eq, decide_eq_false_iff_not, beq_iff_eq, bne_iff_ne, beq_eq_false_iff_ne, bne_eq_false_iff_eq, Bool.true_and, ne_eq, Decidable.not_not, Int.not_lt, Int.not_le, Nat.not_lt, Nat.not_le, strB_nil, strB_nil', strB_nnil, strB_nnil'] at h12
            refine run_skip ?_
            refine run_seq ?_
            refine run_block ?_
            refine run_seq ?_
            refine run_draw fmo (q_move .n (.t rfl) rfl <|
                q_nilc_ro .n (.t rfl) rfl <|
                q_fld_ro .n (.t rfl) fo_26_1 rfl <|
                q_ld1_ro .n (.t rfl) rfl ic_24 rfl <|
                q_move .n (.t rfl) rfl <|
                q_move .n (.t rfl) rfl <|
                q_idx_rm .n (.t rfl) (.t rfl) sl_28 (fun _ => by omega) rfl <|
                q_ld1_ro .n (.t rfl) rfl ic_2 rfl <|
                q_idx_rm .n (.t rfl) (.t rfl) sl_24 (fun _ => by ((have hF : Far m_ list to (x2.2 + 1) x3.1 := (by assumption); have hl := hF.len; have hq := ListIn.air hp1 hp2 (i := x3.2) (by omega); have hr := ListIn.at hp2 (i := x3.2) (by omega); first | omega | (dsimp only; omega)))) rfl <|
                q_assign .n (.t rfl) rfl <|
                Lex.nil) (by kernel_rfl) ?_
            refine run_seq ?_
            refine run_seq ?_
            refine run_region (q_move .n (.t rfl) rfl <|
                q_move .n (.t rfl) rfl <|
                q_nilc_ro .n (.t rfl) rfl <|
                q_fld_ro .n (.t rfl) fo_46_1 rfl <|
                q_ld1_ro .n (.t rfl) rfl ic_2 rfl <|
                q_idx_ow .n (.t rfl) (.t rfl) sl_28 (fun _ => by ((have hF : Far m_ list to (x2.2 + 1) x3.1 := (by assumption); have hl := hF.len; have hq := ListIn.air hp1 hp2 (i := x3.2) (by omega); have hr := ListIn.at hp2 (i := x3.2) (by omega); first | omega | (dsimp only; omega)))) rfl <|
                q_ld1_row .n (.t rfl) rfl (fun _ => by ((have hF : Far m_ list to (x2.2 + 1) x3.1 := (by assumption); have hl := hF.len; have hq := ListIn.air hp1 hp2 (i := x3.2) (by omega); have hr := ListIn.at hp2 (i := x3.2) (by omega); first | omega | (dsimp only; omega)))) rfl rfl rfl ic_2 rfl <|
                q_move .n (.t rfl) rfl <|
                q_int .n (.t rfl) (.t rfl) rfl rfl <|
                q_move .n (.t rfl) rfl <|
                q_move (.t rfl rfl) (.t rfl) rfl <|
                q_move (.t rfl rfl) (.t rfl) rfl <|
                q_nilc_ro (.t rfl rfl) (.u rfl id) rfl <|
                q_fld_ro (.t rfl rfl) (.u rfl id) fo_46_2 rfl <|
                q_ld1_ro (.t rfl rfl) (.u rfl id) rfl ic_2 rfl <|
                q_idx_ow (.t rfl rfl) (.u rfl id) (.u rfl id) sl_28 (fun hg => by simp only [Bool.and_eq_true, Bool.or_eq_true, Bool.not_eq_true', Bool.and_eq_false_iff, Bool.or_eq_false_iff, Bool.not_eq_false', decide_eq_true_eq, decide_eq_false_iff_not, beq_iff_eq, bne_iff_ne, beq_eq_false_iff_ne, bne_eq_false_iff_eq, Bool.true_and, ne_eq, Decidable.not_not, Int.not_lt, Int.not_le, Nat.not_lt, Nat.not_le, strB_nil, strB_nil', strB_nnil, strB_nnil'] at hg; ((have hF : Far m_ list to (x2.2 + 1) x3.1 := (by assumption); have hl := hF.len; have hq := ListIn.air hp1 hp2 (i := x3.2) (by omega); have hr := ListIn.at hp2 (i := x3.2) (by omega); first | omega | (dsimp only; omega)))) rfl <|
                q_ld1_row (.t rfl rfl) (.u rfl id) rfl (fun hg => by simp only [Bool.and_eq_true, Bool.or_eq_true, Bool.not_eq_true', Bool.and_eq_false_iff, Bool.or_eq_false_iff, Bool.not_eq_false', decide_eq_true_eq, decide_eq_false_iff_not, beq_iff_eq, bne_iff_ne, beq_eq_false_iff_ne, bne_eq_false_iff_eq, Bool.true_and, ne_eq, Decidable.not_not, Int.not_lt, Int.not_le, Nat.not_lt, Nat.not_le, strB_nil, strB_nil', strB_nnil, strB_nnil'] at hg; ((have hF : Far m_ list to (x2.2 + 1) x3.1 := (by assumption); have hl := hF.len; have hq := ListIn.air hp1 hp2 (i := x3.2) (by omega); have hr := ListIn.at hp2 (i := x3.2) (by omega); first | omega | (dsimp only; omega)))) rfl rfl rfl ic_2 rfl <|
                q_int (.t rfl rfl) (.u rfl id) (.c rfl) rfl rfl <|
                q_and .n (.t rfl) (.u rfl id) rfl <|
                Lex.nil) ?_
            refine run_join _ _ rfl (fun v13 : (List Int) => Far m_ list to (x2.2 + 1) v13) (fun v13 => ⟨[(0, some (true, .rp [.int .i64 m_.Junctions, .sl 7 (m_.Airways.map gAirway.v)])), (1, some (true, .sl 1 (list.map (V.int .i64)))), (2, some (true, .int .i64 from_)), (3, some (true, .int .i64 to)), (10, some (true, .os 200 v13.length)), (12, some (true, .int .i64 x2.2)), (13, some (true, .int .i64 x3.2)), (14, some (true, .rp [.str (at' m_.Airways (at' list x3.2)).Id, .int .i64 (at' m_.Airways (at' list x3.2)).From, .int .i64 (at' m_.Airways (at' list x3.2)).To, .int .i64 (at' m_.Airways (at' list x3.2)).Length, .int .i64 (at' m_.Airways (at' list x3.2)).Section, .int .i64 (at' m_.Airways (at' list x3.2)).Friction, .int .i64 (at' m_.Airways (at' list x3.2)).Shock]))], [(200, some (.row 2 1 (v13.map (V.int .i64))))]⟩) (fun v13 hv18 => ?_) (fun j14 hj15 => ?_)
            · have e19 := hv18
              refine run_seq ?_
              refine run_region (q_move .n (.t rfl) rfl <|
                  q_move .n (.t rfl) rfl <|
                  q_nilc_ro .n (.t rfl) rfl <|
                  q_fld_ro .n (.t rfl) fo_46_2 rfl <|
                  q_ld1_ro .n (.t rfl) rfl ic_2 rfl <|
                  q_idx_ow .n (.t rfl) (.t rfl) sl_28 (fun _ => by ((have hF : Far m_ list to (x2.2 + 1) v13 := (by assumption); have hl := hF.len; have hq := ListIn.air hp1 hp2 (i := x3.2) (by omega); have hr := ListIn.at hp2 (i := x3.2) (by omega); first | omega | (dsimp only; omega)))) rfl <|
                  q_ld1_row .n (.t rfl) rfl (fun _ => by ((have hF : Far m_ list to (x2.2 + 1) v13 := (by assumption); have hl := hF.len; have hq := ListIn.air hp1 hp2 (i := x3.2) (by omega); have hr := ListIn.at hp2 (i := x3.2) (by omega); first | omega | (dsimp only; omega)))) rfl rfl rfl ic_2 rfl <|
                  q_move .n (.t rfl) rfl <|
                  q_int .n (.t rfl) (.t rfl) rfl rfl <|
                  q_move .n (.t rfl) rfl <|
                  q_move (.t rfl rfl) (.t rfl) rfl <|
                  q_move (.t rfl rfl) (.t rfl) rfl <|
                  q_nilc_ro (.t rfl rfl) (.u rfl id) rfl <|
                  q_fld_ro (.t rfl rfl) (.u rfl id) fo_46_1 rfl <|
                  q_ld1_ro (.t rfl rfl) (.u rfl id) rfl ic_2 rfl <|
                  q_idx_ow (.t rfl rfl) (.u rfl id) (.u rfl id) sl_28 (fun hg => by simp only [Bool.and_eq_true, Bool.or_eq_true, Bool.not_eq_true', Bool.and_eq_false_iff, Bool.or_eq_false_iff, Bool.not_eq_false', decide_eq_true_eq, decide_eq_false_iff_not, beq_iff_eq, bne_iff_ne, beq_eq_false_iff_ne, bne_eq_false_iff_eq, Bool.true_and, ne_eq, Decidable.not_not, Int.not_lt, Int.not_le, Nat.not_lt, Nat.not_le, strB_nil, strB_nil', strB_nnil, strB_nnil'] at hg; ((have hF : Far m_ list to (x2.2 + 1) v13 := (by assumption); have hl := hF.len; have hq := ListIn.air hp1 hp2 (i := x3.2) (by omega); have hr := ListIn.at hp2 (i := x3.2) (by omega); first | omega | (dsimp only; omega)))) rfl <|
                  q_ld1_row (.t rfl rfl) (.u rfl id) rfl (fun hg => by simp only [Bool.and_eq_true, Bool.or_eq_true, Bool.not_eq_true', Bool.and_eq_false_iff, Bool.or_eq_false_iff, Bool.not_eq_false', decide_eq_true_eq, decide_eq_false_iff_not, beq_iff_eq, bne_iff_ne, beq_eq_false_iff_ne, bne_eq_false_iff_eq, Bool.true_and, ne_eq, Decidable.not_not, Int.not_lt, Int.not_le, Nat.not_lt, Nat.not_le, strB_nil, strB_nil', strB_nnil, strB_nnil'] at hg; ((have hF : Far m_ list to (x2.2 + 1) v13 := (by assumption); have hl := hF.len; have hq := ListIn.air hp1 hp2 (i := x3.2) (by omega); have hr := ListIn.at hp2 (i := x3.2) (by omega); first | omega | (dsimp only; omega)))) rfl rfl rfl ic_2 rfl <|
                  q_int (.t rfl rfl) (.u rfl id) (.c rfl) rfl rfl <|
                  q_and .n (.t rfl) (.u rfl id) rfl <|
                  Lex.nil) ?_
              refine run_cond (.t rfl) rfl (fun h17 => ?_) (fun h17 => ?_)
              · try simp only [Bool.and_eq_true, Bool.or_eq_true, Bool.not_eq_true', Bool.and_eq_false_iff, Bool.or_eq_false_iff, Bool.not_eq_false', decide_eq_true_eq, decide_eq_false_iff_not, beq_iff_eq, bne_iff_ne, beq_eq_false_iff_ne, bne_eq_false_iff_eq, Bool.true_and, ne_eq, Decidable.not_not, Int.not_lt, Int.not_le, Nat.not_lt, Nat.not_le, strB_nil, strB_nil', strB_nnil, strB_nnil'] at h17
                refine run_region (q_move .n (.t rfl) rfl <|
                    q_move .n (.t rfl) rfl <|
                    q_nilc_ro .n (.t rfl) rfl <|
                    q_fld_ro .n (.t rfl) fo_46_1 rfl <|
                    q_ld1_ro .n (.t rfl) rfl ic_2 rfl <|
                    q_move .n (.t rfl) rfl <|
                    q_add .n (.t rfl) (.c rfl) (fun _ => by omega) rfl <|
                    q_idx_ow .n (.t rfl) (.t rfl) sl_28 (fun _ => by ((have hF : Far m_ list to (x2.2 + 1) v13 := (by assumption); have hl := hF.len; have hq := ListIn.air hp1 hp2 (i := x3.2) (by omega); have hr := ListIn.at hp2 (i := x3.2) (by omega); first | omega | (dsimp only; omega)))) rfl <|
                    q_st_rowm (x2.2 + 1) .n rfl (.t rfl) (.t rfl) rfl ts_2 (by ((have hF : Far m_ list to (x2.2 + 1) v13 := (by assumption); have hl := hF.len; have hq := ListIn.air hp1 hp2 (i := x3.2) (by omega); have hr := ListIn.at hp2 (i := x3.2) (by omega); first | omega | (dsimp only; omega)))) rfl rfl <|
                    Lex.nil) ?_
                refine run_endB ?_
                refine run_region (q_move .n (.t rfl) rfl <|
                    q_add .n (.t rfl) (.c rfl) (fun _ => by omega) rfl <|
                    q_assign .n (.t rfl) rfl <|
                    Lex.nil) ?_
                exact run_again (put' v13 (at' m_.Airways (at' list x3.2)).From (x2.2 + 1), x3.2 + 1) ⟨by omega, by omega, by ((have hF : Far m_ list to (x2.2 + 1) v13 := (by assumption); have hl := hF.len; have hq := ListIn.air hp1 hp2 (i := x3.2) (by omega); have hr := ListIn.at hp2 (i := x3.2) (by omega); (try dsimp only); exact hF.set hp1 hp2 (i := x3.2) ⟨by omega, by omega⟩ ⟨hq.2.2.1, hq.2.2.2⟩ ⟨hq.1, hq.2.1⟩ (by omega) (by omega) (by omega) (by omega) (.inr ⟨rfl, rfl⟩)))⟩ (by omega) (sub_of [] ⟨rfl, rfl, rfl, rfl, os_len rfl (by first | (simp only [put_len]; done) | (first | omega | assumption | (simp only [List.length_append, List.length_cons, List.length_nil, List.length_replicate, put_len] at * <;> omega) | (((have hF : Far m_ list to (x2.2 + 1) x3.1 := (by assumption); have hl := hF.len; have hq := ListIn.air hp1 hp2 (i := x3.2) (by omega); have hr := ListIn.at hp2 (i := x3.2) (by omega); first | omega | (dsimp only; omega))); done) | (((have hF : Far m_ list to (x2.2 + 1) v13 := (by assumption); have hl := hF.len; have hq := ListIn.air hp1 hp2 (i := x3.2) (by omega); have hr := ListIn.at hp2 (i := x3.2) (by omega); first | omega | (dsimp only; omega))); done) | (((have hF : Far m_ list to (x2.2 + 1) x3.1 := (by assumption); have hl := hF.len; have hq := ListIn.air hp1 hp2 (i := x3.2) (by omega); have hr := ListIn.at hp2 (i := x3.2) (by omega); (try dsimp only); exact hF.set hp1 hp2 (i := x3.2) ⟨by omega, by omega⟩ ⟨hq.1, hq.2.1⟩ ⟨hq.2.2.1, hq.2.2.2⟩ (by omega) (by omega) (by omega) (by omega) (.inl ⟨rfl, rfl⟩))); done) | (((have hF : Far m_ list to (x2.2 + 1) v13 := (by assumption); have hl := hF.len; have hq := ListIn.air hp1 hp2 (i := x3.2) (by omega); have hr := ListIn.at hp2 (i := x3.2) (by omega); (try dsimp only); exact hF.set hp1 hp2 (i := x3.2) ⟨by omega, by omega⟩ ⟨hq.2.2.1, hq.2.2.2⟩ ⟨hq.1, hq.2.1⟩ (by omega) (by omega) (by omega) (by omega) (.inr ⟨rfl, rfl⟩))); done) | (((refine Far.start (by omega) (fun j j0 j1 => ?_) (by omega); exact (by assumption : ∀ j, 0 ≤ j → j < x1.2 → at' x1.1 j = -1) j j0 (by omega))); done) | (((intro j j0 j1; (try dsimp only at *); omega)); done) | (((dsimp only; exact neg_app (by assumption) (by omega))); done) | ((exact Far.mono (by assumption) (by omega)); done) | (((have hF : Far m_ list to x2.2 x2.1 := (by assumption); have hl := hF.len; have hu := hF.low from_ hp3.1 hp3.2; first | omega | (simp only [List.length_nil]; omega))); done) | ((exact NoStep.nil); done))), rfl, rfl, trivial⟩ ⟨rfl, trivial⟩ rfl)
              · try simp only [Bool.and_eq_true, Bool.or_eq_true, Bool.not_eq_true', Bool.and_eq_false_iff, Bool.or_eq_false_iff, Bool.not_eq_false', decide_eq_true_eq, decide_eq_false_iff_not, beq_iff_eq, bne_iff_ne, beq_eq_false_iff_ne, bne_eq_false_iff_eq, Bool.true_and, ne_eq, Decidable.not_not, Int.not_lt, Int.not_le, Nat.not_lt, Nat.not_le, strB_nil, strB_nil', strB_nnil, strB_nnil'] at h17
                refine run_skip ?_
                refine run_endB ?_
                refine run_region (q_move .n (.t rfl) rfl <|
                    q_add .n (.t rfl) (.c rfl) (fun _ => by omega) rfl <|
                    q_assign .n (.t rfl) rfl <|
                    Lex.nil) ?_
                exact run_again (v13, x3.2 + 1) ⟨by omega, by omega, by omega⟩ (by omega) (sub_of [] ⟨rfl, rfl, rfl, rfl, rfl, rfl, rfl, trivial⟩ ⟨rfl, trivial⟩ rfl)
            · refine run_cond (.t rfl) rfl (fun h16 => ?_) (fun h16 => ?_)
              · try simp only [Bool.and_eq_true, Bool.or_eq_true, Bool.not_eq_true', Bool.and_eq_false_iff, Bool.or_eq_false_iff, Bool.not_eq_false', decide_eq_true_eq, decide_eq_false_iff_not, beq_iff_eq, bne_iff_ne, beq_eq_false_iff_ne, bne_eq_false_iff_eq, Bool.true_and, ne_eq, Decidable.not_not, Int.not_lt, Int.not_le, Nat.not_lt, Nat.not_le, strB_nil, strB_nil', strB_nnil, strB_nnil'] at h16
                refine run_region (q_move .n (.t rfl) rfl <|
                    q_move .n (.t rfl) rfl <|
                    q_nilc_ro .n (.t rfl) rfl <|
                    q_fld_ro .n (.t rfl) fo_46_2 rfl <|
                    q_ld1_ro .n (.t rfl) rfl ic_2 rfl <|
                    q_move .n (.t rfl) rfl <|
                    q_add .n (.t rfl) (.c rfl) (fun _ => by omega) rfl <|
                    q_idx_ow .n (.t rfl) (.t rfl) sl_28 (fun _ => by ((have hF : Far m_ list to (x2.2 + 1) x3.1 := (by assumption); have hl := hF.len; have hq := ListIn.air hp1 hp2 (i := x3.2) (by omega); have hr := ListIn.at hp2 (i := x3.2) (by omega); first | omega | (dsimp only; omega)))) rfl <|
                    q_st_rowm (x2.2 + 1) .n rfl (.t rfl) (.t rfl) rfl ts_2 (by ((have hF : Far m_ list to (x2.2 + 1) x3.1 := (by assumption); have hl := hF.len; have hq := ListIn.air hp1 hp2 (i := x3.2) (by omega); have hr := ListIn.at hp2 (i := x3.2) (by omega); first | omega | (dsimp only; omega)))) rfl rfl <|
                    Lex.nil) ?_
                exact run_cont hj15 (put' x3.1 (at' m_.Airways (at' list x3.2)).To (x2.2 + 1)) (by ((have hF : Far m_ list to (x2.2 + 1) x3.1 := (by assumption); have hl := hF.len; have hq := ListIn.air hp1 hp2 (i := x3.2) (by omega); have hr := ListIn.at hp2 (i := x3.2) (by omega); (try dsimp only); exact hF.set hp1 hp2 (i := x3.2) ⟨by omega, by omega⟩ ⟨hq.1, hq.2.1⟩ ⟨hq.2.2.1, hq.2.2.2⟩ (by omega) (by omega) (by omega) (by omega) (.inl ⟨rfl, rfl⟩)))) (sub_of [] ⟨rfl, rfl, rfl, rfl, os_len rfl (by first | (simp only [put_len]; done) | (first | omega | assumption | (simp only [List.length_append, List.length_cons, List.length_nil, List.length_replicate, put_len] at * <;> omega) | (((have hF : Far m_ list to (x2.2 + 1) x3.1 := (by assumption); have hl := hF.len; have hq := ListIn.air hp1 hp2 (i := x3.2) (by omega); have hr := ListIn.at hp2 (i := x3.2) (by omega); first | omega | (dsimp only; omega))); done) | (((have hF : Far m_ list to (x2.2 + 1) v13 := (by assumption); have hl := hF.len; have hq := ListIn.air hp1 hp2 (i := x3.2) (by omega); have hr := ListIn.at hp2 (i := x3.2) (by omega); first | omega | (dsimp only; omega))); done) | (((have hF : Far m_ list to (x2.2 + 1) x3.1 := (by assumption); have hl := hF.len; have hq := ListIn.air hp1 hp2 (i := x3.2) (by omega); have hr := ListIn.at hp2 (i := x3.2) (by omega); (try dsimp only); exact hF.set hp1 hp2 (i := x3.2) ⟨by omega, by omega⟩ ⟨hq.1, hq.2.1⟩ ⟨hq.2.2.1, hq.2.2.2⟩ (by omega) (by omega) (by omega) (by omega) (.inl ⟨rfl, rfl⟩))); done) | (((have hF : Far m_ list to (x2.2 + 1) v13 := (by assumption); have hl := hF.len; have hq := ListIn.air hp1 hp2 (i := x3.2) (by omega); have hr := ListIn.at hp2 (i := x3.2) (by omega); (try dsimp only); exact hF.set hp1 hp2 (i := x3.2) ⟨by omega, by omega⟩ ⟨hq.2.2.1, hq.2.2.2⟩ ⟨hq.1, hq.2.1⟩ (by omega) (by omega) (by omega) (by omega) (.inr ⟨rfl, rfl⟩))); done) | (((refine Far.start (by omega) (fun j j0 j1 => ?_) (by omega); exact (by assumption : ∀ j, 0 ≤ j → j < x1.2 → at' x1.1 j = -1) j j0 (by omega))); done) | (((intro j j0 j1; (try dsimp only at *); omega)); done) | (((dsimp only; exact neg_app (by assumption) (by omega))); done) | ((exact Far.mono (by assumption) (by omega)); done) | (((have hF : Far m_ list to x2.2 x2.1 := (by assumption); have hl := hF.len; have hu := hF.low from_ hp3.1 hp3.2; first | omega | (simp only [List.length_nil]; omega))); done) | ((exact NoStep.nil); done))), rfl, rfl, rfl, trivial⟩ ⟨rfl, trivial⟩ rfl)
              · try simp only [Bool.and_eq_true, Bool.or_eq_true, Bool.not_eq_true', Bool.and_eq_false_iff, Bool.or_eq_false_iff, Bool.not_eq_false', decide_eq_true_eq, decide_eq_false_iff_not, beq_iff_eq, bne_iff_ne, beq_eq_false_iff_ne, bne_eq_false_iff_eq, Bool.true_and, ne_eq, Decidable.not_not, Int.not_lt, Int.not_le, Nat.not_lt, Nat.not_le, strB_nil, strB_nil', strB_nnil, strB_nnil'] at h16
                refine run_skip ?_
                exact run_cont hj15 x3.1 (by omega) (sub_of [] ⟨rfl, rfl, rfl, rfl, rfl, rfl, rfl, rfl, trivial⟩ ⟨rfl, trivial⟩ rfl)
          · try simp only [Bool.and_eq_true, Bool.or_eq_true, Bool.not_eq_true', Bool.and_eq_false_iff, Bool.or_eq_false_iff, Bool.not_eq_false', decide_eq_true_eq, decide_eq_false_iff_not, beq_iff_eq, bne_iff_ne, beq_eq_false_iff_ne, bne_eq_false_iff_eq, Bool.true_and, ne_eq, Decidable.not_not, Int.not_lt, Int.not_le, Nat.not_lt, Nat.not_le, strB_nil, strB_nil', strB_nnil, strB_nnil'] at h12
            refine run_exit rfl ?_
            exact run_cont hk10 (x3.1, x3.2) ⟨by omega, by omega, by omega, by omega⟩ (sub_of [] ⟨rfl, rfl, rfl, rfl, rfl, rfl, trivial⟩ ⟨rfl, trivial⟩ rfl)
      · try simp only [Bool.and_eq_true, Bool.or_eq_true, Bool.not_eq_true', Bool.and_eq_false_iff, Bool.or_eq_false_iff, Bool.not_eq_false', decide_eq_true_eq, decide_eq_false_iff_not, beq_iff_eq, bne_iff_ne, beq_eq_false_iff_ne, bne_eq_false_iff_eq, Bool.true_and, ne_eq, Decidable.not_not, Int.not_lt, Int.not_le, Nat.not_lt, Nat.not_le, strB_nil, strB_nil', strB_nnil, strB_nnil'] at h9
        refine run_exit rfl ?_
        exact run_cont hk7 (x2.1, x2.2) ⟨by omega, by omega, by omega, by omega⟩ (sub_of [] ⟨rfl, rfl, rfl, rfl, rfl, trivial⟩ ⟨rfl, trivial⟩ rfl)
  · intro rec1 k1 hk3 x1 i4
    obtain ⟨e69, e70, e71, e72, e73⟩ := i4
    try dsimp only at *
    refine run_seq ?_
    refine run_seq ?_
    refine run_region (q_move .n (.t rfl) rfl <|
        q_move .n (.t rfl) rfl <|
        q_nilc_ro .n (.t rfl) rfl <|
        q_fld_ro .n (.t rfl) fo_26_0 rfl <|
        q_ld1_ro .n (.t rfl) rfl ic_2 rfl <|
        q_int .n (.t rfl) (.t rfl) rfl rfl <|
        Lex.nil) ?_
    refine run_cond (.t rfl) rfl (fun h5 => ?_) (fun h5 => ?_)
    · try simp only [Bool.and_eq_true, Bool.or_eq_true, Bool.not_eq_true', Bool.and_eq_false_iff, Bool.or_eq_false_iff, Bool.not_eq_false', decide_eq_true_eq, decide_eq_false_iff_not, beq_iff_eq, bne_iff_ne, beq_eq_false_iff_ne, bne_eq_false_iff_eq, Bool.true_and, ne_eq, Decidable.not_not, Int.not_lt, Int.not_le, Nat.not_lt, Nat.not_le, strB_nil, strB_nil', strB_nnil, strB_nnil'] at h5
      refine run_skip ?_
      refine run_seq ?_
      refine run_block ?_
      refine run_region (q_move .n (.t rfl) rfl <|
          q_bslicem ([(-1)] : List Int) (f := V.int .i64) (l := 201) .n rfl rfl (.cons (.c rfl) .nil) rfl si_28 zv_2 rfl rfl rfl <|
          q_appm (xs := x1.1) (ys := ([(-1)] : List Int)) (f := V.int .i64) (l := 202) .n rfl (.ow (.t rfl) rfl (take_all (by simp only [len_map, put_len] <;> rfl)) (by simp only [len_map, put_len] <;> rfl)) (.ow (.t rfl) rfl (take_all (by simp only [len_map, put_len] <;> rfl)) (by simp only [len_map, put_len] <;> rfl)) si_28 zv_2 rfl (by (simp only [List.length_append, List.length_cons, List.length_nil, List.length_replicate, put_len] at * <;> omega)) rfl rfl <|
          q_assign .n (.t rfl) rfl <|
          Lex.nil) ?_
      refine run_endB ?_
      refine run_region (q_move .n (.t rfl) rfl <|
          q_add .n (.t rfl) (.c rfl) (fun _ => by omega) rfl <|
          q_assign .n (.t rfl) rfl <|
          Lex.nil) ?_
      exact run_again (x1.1 ++ ([(-1)] : List Int), x1.2 + 1) ⟨by omega, by omega, by (simp only [List.length_append, List.length_cons, List.length_nil, List.length_replicate, put_len] at * <;> omega), by (simp only [List.length_append, List.length_cons, List.length_nil, List.length_replicate, put_len] at * <;> omega), by ((dsimp only; exact neg_app (by assumption) (by omega)))⟩ (by omega) (sub_of [(200, 202)] ⟨rfl, rfl, rfl, rfl, rfl, rfl, trivial⟩ ⟨rfl, trivial⟩ rfl)
    · try simp only [Bool.and_eq_true, Bool.or_eq_true, Bool.not_eq_true', Bool.and_eq_false_iff, Bool.or_eq_false_iff, Bool.not_eq_false', decide_eq_true_eq, decide_eq_false_iff_not, beq_iff_eq, bne_iff_ne, beq_eq_false_iff_ne, bne_eq_false_iff_eq, Bool.true_and, ne_eq, Decidable.not_not, Int.not_lt, Int.not_le, Nat.not_lt, Nat.not_le, strB_nil, strB_nil', strB_nnil, strB_nnil'] at h5
      refine run_exit rfl ?_
      exact run_cont hk3 (x1.1, x1.2) ⟨by omega, by omega, by omega, by omega, by omega, by omega⟩ (sub_of [] ⟨rfl, rfl, rfl, rfl, rfl, trivial⟩ ⟨rfl, trivial⟩ rfl)

/-! ### spec_l04Meshes -/
set_option maxRecDepth 100000 in
theorem c_spec_l04Meshes (m_ : gMine) (hp1 : MineIn m_) : ConG Try.prog 28 [.rp [.int .i64 m_.Junctions, .sl 7 (m_.Airways.map gAirway.v)]] [] (.os 100 (m_spec_l04Meshes m_).length) ([(100, some (.row 28 1 ((m_spec_l04Meshes m_).map (slv 1 (V.int .i64)))))]) := by
  refine con_introG (out := fun r : (List (List Int)) => ((.os 100 r.length : V), ([(100, some (.row 28 1 (r.map (slv 1 (V.int .i64)))))] : List (Nat × Option O)))) (r := (m_spec_l04Meshes m_)) Try.func28 rfl Try.ntmps28 rfl ?_
  have hA := hp1.2.1
  have hT := (tree_in m_).1
  have hJ1 := hp1.1
  have hA1 := hp1.2.1
  refine run_factP (t := 0) 1 rfl rfl fun hl => ?_
  have l1 := hl; clear hl; simp only [List.length_map] at l1
  refine run_seq ?_
  refine run_region (q_assign .n (.c rfl) rfl <|
      Lex.nil) ?_
  refine run_seq ?_
  refine run_region (q_move .n (.t rfl) rfl <|
      q_callM (full := false) [] [(100, 200)] .n rfl .f en_64 (.cons (.t rfl) .nil) (.cons (.b (.a (.same rfl))) .nil) (c_spec_l04Tree m_ (by omega)) trivial rfl rfl (fun h => Bool.noConfusion h) (fun h => Bool.noConfusion h) rfl <|
      q_assign .n (.t rfl) rfl <|
      Lex.nil) ?_
  refine run_seq ?_
  refine run_region (q_bslicem ([] : List (List Int)) (f := slv 1 (V.int .i64)) (l := 201) .n rfl rfl .nil rfl si_66 zv_28 rfl rfl rfl <|
      q_assign .n (.t rfl) rfl <|
      Lex.nil) ?_
  refine run_seq ?_
  refine run_seq ?_
  refine run_region (q_assign .n (.c rfl) rfl <|
      Lex.nil) ?_
  refine run_block ?_
  refine run_LOOPG (m_spec_l04Meshes_b1 m_) _ _ _ rfl (fun (x1 : Int × (List (List Int))) => 0 ≤ x1.1 ∧ x1.1 ≤ (m_.Airways.length : Int) ∧ (x1.2.length : Int) + 0 ≤ x1.1 + (([] : List (List Int)).length : Int) ∧ (x1.2.length : Int) ≤ x1.1) (fun x1 => 0 ≤ x1.1 ∧ x1.1 ≤ (m_.Airways.length : Int) ∧ (x1.2.length : Int) + 0 ≤ x1.1 + (([] : List (List Int)).length : Int) ∧ (x1.2.length : Int) ≤ x1.1 ∧ (m_.Airways.length : Int) ≤ x1.1) (fun x1 => ((m_.Airways.length : Int) - x1.1 : Int).toNat) (fun x1 => ⟨[(0, some (true, .rp [.int .i64 m_.Junctions, .sl 7 (m_.Airways.map gAirway.v)])), (3, some (true, .os 200 (m_spec_l04Tree m_).length)), (4, some (true, .os 201 x1.2.length)), (5, some (true, .int .i64 x1.1))], [(200, some (.row 2 1 ((m_spec_l04Tree m_).map (V.int .i64)))), (201, some (.row 28 1 (x1.2.map (slv 1 (V.int .i64)))))]⟩) (fun x1 => ⟨[(4, some (true, .os 201 x1.2.length))], [(201, some (.row 28 1 (x1.2.map (slv 1 (V.int .i64)))))]⟩) ⟨by omega, by omega, by (simp only [List.length_append, List.length_cons, List.length_nil, List.length_replicate, put_len] at * <;> omega), by (simp only [List.length_append, List.length_cons, List.length_nil, List.length_replicate, put_len] at * <;> omega)⟩ (by omega) (sub_of [] ⟨rfl, rfl, rfl, rfl, trivial⟩ ⟨rfl, rfl, trivial⟩ rfl) rfl ?_ ?_
  · intro x1 i6
    obtain ⟨e7, e8, e9, e10, e11⟩ := i6
    try dsimp only at *
    refine run_seq ?_
    refine run_region (q_move .n (.t rfl) rfl <|
        q_assign .n (.t rfl) rfl <|
        Lex.nil) ?_
    exact run_ret [(100, 201)] (.cons (.t rfl rfl) .nil) (by first | rfl | (simp only [put_len]; rfl)) ⟨rfl, trivial⟩ rfl
  · intro rec1 k1 hk2 x1 i3
    obtain ⟨e12, e13, e14, e15⟩ := i3
    try dsimp only at *
    refine run_seq ?_
    refine run_seq ?_
    refine run_region (q_move .n (.t rfl) rfl <|
        q_move .n (.t rfl) rfl <|
        q_nilc_ro .n (.t rfl) rfl <|
        q_fld_ro .n (.t rfl) fo_26_1 rfl <|
        q_ld1_ro .n (.t rfl) rfl ic_24 rfl <|
        q_len .n (.t rfl) rfl len_map ss_24 rfl <|
        q_int .n (.t rfl) (.t rfl) rfl rfl <|
        Lex.nil) ?_
    refine run_cond (.t rfl) rfl (fun h4 => ?_) (fun h4 => ?_)
    · try simp only [Bool.and_eq_true, Bool.or_eq_true, Bool.not_eq_true', Bool.and_eq_false_iff, Bool.or_eq_false_iff, Bool.not_eq_false', decide_eq_true_eq, decide_eq_false_iff_not, beq_iff_eq, bne_iff_ne, beq_eq_false_iff_ne, bne_eq_false_iff_eq, Bool.true_and, ne_eq, Decidable.not_not, Int.not_lt, Int.not_le, Nat.not_lt, Nat.not_le, strB_nil, strB_nil', strB_nnil, strB_nnil'] at h4
      refine run_skip ?_
      refine run_seq ?_
      refine run_block ?_
      refine run_seq ?_
      refine run_seq ?_
      refine run_region (q_move .n (.t rfl) rfl <|
          q_move .n (.t rfl) rfl <|
          q_call0 (full := true) .n .f en_65 (.cons (.t rfl) (.cons (.t rfl) .nil)) (.cons (.b (.a (.own rfl rfl rfl (take_all (by simp only [len_map, put_len] <;> rfl)) (by simp only [len_map, put_len] <;> rfl)))) (.cons (.b (.a (.same rfl))) .nil)) (fun hg => c_spec_l00Has (m_spec_l04Tree m_) x1.1) rfl (fun _ => rfl) rfl <|
          Lex.nil) ?_
      refine run_cond (.t rfl) rfl (fun h5 => ?_) (fun h5 => ?_)
      · try simp only [Bool.and_eq_true, Bool.or_eq_true, Bool.not_eq_true', Bool.and_eq_false_iff, Bool.or_eq_false_iff, Bool.not_eq_false', decide_eq_true_eq, decide_eq_false_iff_not, beq_iff_eq, bne_iff_ne, beq_eq_false_iff_ne, bne_eq_false_iff_eq, Bool.true_and, ne_eq, Decidable.not_not, Int.not_lt, Int.not_le, Nat.not_lt, Nat.not_le, strB_nil, strB_nil', strB_nnil, strB_nnil'] at h5
        refine run_exit rfl ?_
        refine run_region (q_move .n (.t rfl) rfl <|
            q_add .n (.t rfl) (.c rfl) (fun _ => by omega) rfl <|
            q_assign .n (.t rfl) rfl <|
            Lex.nil) ?_
        exact run_againG (x1.1 + 1, x1.2) ⟨by omega, by omega, by (simp only [List.length_append, List.length_cons, List.length_nil, List.length_replicate, put_len] at * <;> omega), by (simp only [List.length_append, List.length_cons, List.length_nil, List.length_replicate, put_len] at * <;> omega)⟩ (by omega) (sub_of [] ⟨rfl, rfl, rfl, rfl, trivial⟩ ⟨rfl, rfl, trivial⟩ rfl)
      · try simp only [Bool.and_eq_true, Bool.or_eq_true, Bool.not_eq_true', Bool.and_eq_false_iff, Bool.or_eq_false_iff, Bool.not_eq_false', decide_eq_true_eq, decide_eq_false_iff_not, beq_iff_eq, bne_iff_ne, beq_eq_false_iff_ne, bne_eq_false_iff_eq, Bool.true_and, ne_eq, Decidable.not_not, Int.not_lt, Int.not_le, Nat.not_lt, Nat.not_le, strB_nil, strB_nil', strB_nnil, strB_nnil'] at h5
        refine run_skip ?_
        refine run_seq ?_
        refine run_draw fmo (q_move .n (.t rfl) rfl <|
            q_move .n (.t rfl) rfl <|
            q_move .n (.t rfl) rfl <|
            q_nilc_ro .n (.t rfl) rfl <|
            q_fld_ro .n (.t rfl) fo_26_1 rfl <|
            q_ld1_ro .n (.t rfl) rfl ic_24 rfl <|
            q_move .n (.t rfl) rfl <|
            q_idx_rm .n (.t rfl) (.t rfl) sl_24 (fun _ => by omega) rfl <|
            q_fld_ro .n (.t rfl) fo_46_2 rfl <|
            q_ld1_ro .n (.t rfl) rfl ic_2 rfl <|
            q_move .n (.t rfl) rfl <|
            q_nilc_ro .n (.t rfl) rfl <|
            q_fld_ro .n (.t rfl) fo_26_1 rfl <|
            q_ld1_ro .n (.t rfl) rfl ic_24 rfl <|
            q_move .n (.t rfl) rfl <|
            q_idx_rm .n (.t rfl) (.t rfl) sl_24 (fun _ => by omega) rfl <|
            q_fld_ro .n (.t rfl) fo_46_1 rfl <|
            q_ld1_ro .n (.t rfl) rfl ic_2 rfl <|
            q_callM (full := true) [] [(100, 202)] .n rfl .f en_66 (.cons (.t rfl) (.cons (.t rfl) (.cons (.t rfl) (.cons (.t rfl) .nil)))) (.cons (.b (.a (.same rfl))) (.cons (.b (.a (.own rfl rfl rfl (take_all (by simp only [len_map, put_len] <;> rfl)) (by simp only [len_map, put_len] <;> rfl)))) (.cons (.b (.a (.same rfl))) (.cons (.b (.a (.same rfl))) .nil)))) (c_spec_l04Walk m_ (m_spec_l04Tree m_) (at' m_.Airways x1.1).To (at' m_.Airways x1.1).From (by omega) (by omega) (by ((have hq := hp1.at (i := x1.1) (by omega); unfold AirIn at hq; omega))) (by ((have hq := hp1.at (i := x1.1) (by omega); unfold AirIn at hq; omega)))) trivial rfl rfl (fun _ => rfl) (fun _ => (hr_row (fun _ => rfl) hr_nil)) rfl <|
            q_move .n (.t rfl) rfl <|
            q_ext .n (.t rfl) rfl rfl rfl <|
            q_ext .n (.t rfl) rfl rfl rfl <|
            q_assign .n (.t rfl) rfl <|
            q_assign .n (.t rfl) rfl <|
            Lex.nil) (by kernel_rfl) ?_
        refine run_ro <| ro_lex (l1 := [_, _, _, _, _, _]) (l2 := [_, _, _]) rfl (q_move .n (.t rfl) rfl <|
            q_move .n (.t rfl) rfl <|
            q_add .n (.t rfl) (.c rfl) (fun _ => by omega) rfl <|
            q_bslicem ([x1.1 + 1] : List Int) (f := V.int .i64) (l := 203) .n rfl rfl (.cons (.t rfl) .nil) rfl si_28 zv_2 rfl rfl rfl <|
            q_move .n (.t rfl) rfl <|
            q_appm (xs := ([x1.1 + 1] : List Int)) (ys := (m_spec_l04Walk m_ (m_spec_l04Tree m_) (at' m_.Airways x1.1).To (at' m_.Airways x1.1).From).1) (f := V.int .i64) (l := 204) .n rfl (.ow (.t rfl) rfl (take_all (by simp only [len_map, put_len] <;> rfl)) (by simp only [len_map, put_len] <;> rfl)) (.ow (.t rfl) rfl (take_all (by simp only [len_map, put_len] <;> rfl)) (by simp only [len_map, put_len] <;> rfl)) si_28 zv_2 rfl (by ((have hq := hp1.at (i := x1.1) (by omega); unfold AirIn at hq; have hW := (walk_is hp1 hT (from_ := (at' m_.Airways x1.1).To) (to := (at' m_.Airways x1.1).From) (by omega) (by omega)).len; simp only [List.length_append, List.length_cons, List.length_nil]; omega))) rfl rfl <|
            Lex.nil) <|
            ro_freezeL (l := 204) [50] ⟨rfl, trivial⟩ rfl (take_all (by simp only [len_map, put_len] <;> rfl)) (by simp only [len_map, put_len] <;> rfl) rfl <|
            ro_lex (l1 := [_, _, _]) (l2 := []) rfl (q_bslicem ([([x1.1 + 1] : List Int) ++ (m_spec_l04Walk m_ (m_spec_l04Tree m_) (at' m_.Airways x1.1).To (at' m_.Airways x1.1).From).1] : List (List Int)) (f := slv 1 (V.int .i64)) (l := 205) .n rfl rfl (.cons (.t rfl) .nil) rfl si_66 zv_28 rfl rfl rfl <|
            q_appm (xs := x1.2) (ys := ([([x1.1 + 1] : List Int) ++ (m_spec_l04Walk m_ (m_spec_l04Tree m_) (at' m_.Airways x1.1).To (at' m_.Airways x1.1).From).1] : List (List Int))) (f := slv 1 (V.int .i64)) (l := 206) .n rfl (.ow (.t rfl) rfl (take_all (by simp only [len_map, put_len] <;> rfl)) (by simp only [len_map, put_len] <;> rfl)) (.ow (.t rfl) rfl (take_all (by simp only [len_map, put_len] <;> rfl)) (by simp only [len_map, put_len] <;> rfl)) si_66 zv_28 rfl (by (simp only [List.length_append, List.length_cons, List.length_nil, List.length_replicate, put_len] at * <;> omega)) rfl rfl <|
            q_assign .n (.t rfl) rfl <|
            Lex.nil) <|
            ro_end ?_
        refine run_endB ?_
        refine run_region (q_move .n (.t rfl) rfl <|
            q_add .n (.t rfl) (.c rfl) (fun _ => by omega) rfl <|
            q_assign .n (.t rfl) rfl <|
            Lex.nil) ?_
        exact run_againG (x1.1 + 1, x1.2 ++ ([([x1.1 + 1] : List Int) ++ (m_spec_l04Walk m_ (m_spec_l04Tree m_) (at' m_.Airways x1.1).To (at' m_.Airways x1.1).From).1] : List (List Int))) ⟨by omega, by omega, by (simp only [List.length_append, List.length_cons, List.length_nil, List.length_replicate, put_len] at * <;> omega), by (simp only [List.length_append, List.length_cons, List.length_nil, List.length_replicate, put_len] at * <;> omega)⟩ (by omega) (sub_of [(201, 206)] ⟨rfl, rfl, rfl, rfl, trivial⟩ ⟨rfl, rfl, trivial⟩ rfl)
    · try simp only [Bool.and_eq_true, Bool.or_eq_true, Bool.not_eq_true', Bool.and_eq_false_iff, Bool.or_eq_false_iff, Bool.not_eq_false', decide_eq_true_eq, decide_eq_false_iff_not, beq_iff_eq, bne_iff_ne, beq_eq_false_iff_ne, bne_eq_false_iff_eq, Bool.true_and, ne_eq, Decidable.not_not, Int.not_lt, Int.not_le, Nat.not_lt, Nat.not_le, strB_nil, strB_nil', strB_nnil, strB_nnil'] at h4
      refine run_exit rfl ?_
      exact run_cont hk2 (x1.1, x1.2) ⟨by omega, by omega, by omega, by omega, by omega⟩ (sub_of [] ⟨rfl, trivial⟩ ⟨rfl, trivial⟩ rfl)

/-! ### spec_l07Add -/
set_option maxRecDepth 100000 in
theorem c_spec_l07Add (flows : List Int) (walk : List Int) (amount : Int) (hp1 : MeshOk flows.length walk) (hp2 : flows.length ≤ 100000) : Con Try.prog 29 [.os 0 flows.length, .sl 1 (walk.map (V.int .i64)), .int .i64 amount] [(0, some (.row 2 1 (flows.map (V.int .i64))))] (.tup []) ([(0, some (.row 2 1 ((m_spec_l07Add flows walk amount).map (V.int .i64))))]) := by
  refine con_intro (out := fun r : (List Int) => ((.tup [] : V), ([(0, some (.row 2 1 (r.map (V.int .i64))))] : List (Nat × Option O)))) (r := (m_spec_l07Add flows walk amount)) Try.func29 rfl Try.ntmps29 rfl ?_
  refine run_factH (l := 0) rfl fun hl => ?_
  have l1 := hl; clear hl; simp only [List.length_map] at l1
  refine run_fact (t := 1) rfl fun hl => ?_
  have l2 := hl; clear hl; simp only [List.length_map] at l2
  refine run_seq ?_
  refine run_region (q_assign .n (.c rfl) rfl <|
      Lex.nil) ?_
  refine run_block ?_
  refine run_LOOP (m_spec_l07Add_b1 flows walk amount) _ _ _ rfl (fun (x1 : (List Int) × Int) => 0 ≤ x1.2 ∧ x1.2 ≤ (walk.length : Int) ∧ x1.1.length = flows.length) (fun x1 => 0 ≤ x1.2 ∧ x1.2 ≤ (walk.length : Int) ∧ x1.1.length = flows.length ∧ (walk.length : Int) ≤ x1.2) (fun x1 => ((walk.length : Int) - x1.2 : Int).toNat) (fun x1 => ⟨[(0, some (true, .os 0 x1.1.length)), (1, some (true, .sl 1 (walk.map (V.int .i64)))), (2, some (true, .int .i64 amount)), (6, some (true, .int .i64 x1.2))], [(0, some (.row 2 1 (x1.1.map (V.int .i64))))]⟩) (fun x1 => ⟨[], [(0, some (.row 2 1 (x1.1.map (V.int .i64))))]⟩) ⟨by omega, by omega, by (simp only [List.length_append, List.length_cons, List.length_nil, List.length_replicate, put_len] at * <;> omega)⟩ (by omega) (sub_of [] ⟨rfl, rfl, rfl, rfl, trivial⟩ ⟨rfl, trivial⟩ rfl) ?_ ?_
  · intro x1 i7
    obtain ⟨e8, e9, e10, e11⟩ := i7
    try dsimp only at *
    exact run_end [] .nil rfl ⟨rfl, trivial⟩ rfl
  · intro rec1 k1 hk3 x1 i4
    obtain ⟨e12, e13, e14⟩ := i4
    try dsimp only at *
    refine run_seq ?_
    refine run_seq ?_
    refine run_region (q_move .n (.t rfl) rfl <|
        q_move .n (.t rfl) rfl <|
        q_len .n (.t rfl) rfl len_map ss_28 rfl <|
        q_int .n (.t rfl) (.t rfl) rfl rfl <|
        Lex.nil) ?_
    refine run_cond (.t rfl) rfl (fun h5 => ?_) (fun h5 => ?_)
    · try simp only [Bool.and_eq_true, Bool.or_eq_true, Bool.not_eq_true', Bool.and_eq_false_iff, Bool.or_eq_false_iff, Bool.not_eq_false', decide_eq_true_eq, decide_eq_false_iff_not, beq_iff_eq, bne_iff_ne, beq_eq_false_iff_ne, bne_eq_false_iff_eq, Bool.true_and, ne_eq, Decidable.not_not, Int.not_lt, Int.not_le, Nat.not_lt, Nat.not_le, strB_nil, strB_nil', strB_nnil, strB_nnil'] at h5
      refine run_skip ?_
      refine run_seq ?_
      refine run_block ?_
      refine run_seq ?_
      refine run_region (q_move .n (.t rfl) rfl <|
          q_move .n (.t rfl) rfl <|
          q_idx_rm .n (.t rfl) (.t rfl) sl_28 (fun _ => by omega) rfl <|
          q_ld1_ro .n (.t rfl) rfl ic_2 rfl <|
          q_int .n (.t rfl) (.c rfl) rfl rfl <|
          Lex.nil) ?_
      refine run_cond (.t rfl) rfl (fun h6 => ?_) (fun h6 => ?_)
      · try simp only [Bool.and_eq_true, Bool.or_eq_true, Bool.not_eq_true', Bool.and_eq_false_iff, Bool.or_eq_false_iff, Bool.not_eq_false', decide_eq_true_eq, decide_eq_false_iff_not, beq_iff_eq, bne_iff_ne, beq_eq_false_iff_ne, bne_eq_false_iff_eq, Bool.true_and, ne_eq, Decidable.not_not, Int.not_lt, Int.not_le, Nat.not_lt, Nat.not_le, strB_nil, strB_nil', strB_nnil, strB_nnil'] at h6
        refine run_region (q_move .n (.t rfl) rfl <|
            q_move .n (.t rfl) rfl <|
            q_move .n (.t rfl) rfl <|
            q_idx_rm .n (.t rfl) (.t rfl) sl_28 (fun _ => by omega) rfl <|
            q_ld1_ro .n (.t rfl) rfl ic_2 rfl <|
            q_int .n (.t rfl) (.c rfl) rfl rfl <|
            q_idx_ow .n (.t rfl) (.t rfl) sl_28 (fun _ => by ((have hq := at_all hp1.ok (i := x1.2) (by omega); have he : edge (at' walk x1.2) = _ := rfl; simp only [edge] at hq; have hw1 := wr64 (n := at' walk x1.2 - 1) (by split at hq <;> omega); have hw2 := wr64 (n := 0 - at' walk x1.2) (by split at hq <;> omega); have hw3 := wr64 (n := (IntKind.wrap .i64 (0 - at' walk x1.2)) - 1) (by split at hq <;> omega); split at hq <;> first | omega | (simp only [put_len]; omega) | (rw [hw1]; omega) | (rw [hw3, hw2]; omega)))) rfl <|
            q_ld1_row .n (.t rfl) rfl (fun _ => by ((have hq := at_all hp1.ok (i := x1.2) (by omega); have he : edge (at' walk x1.2) = _ := rfl; simp only [edge] at hq; have hw1 := wr64 (n := at' walk x1.2 - 1) (by split at hq <;> omega); have hw2 := wr64 (n := 0 - at' walk x1.2) (by split at hq <;> omega); have hw3 := wr64 (n := (IntKind.wrap .i64 (0 - at' walk x1.2)) - 1) (by split at hq <;> omega); split at hq <;> first | omega | (simp only [put_len]; omega) | (rw [hw1]; omega) | (rw [hw3, hw2]; omega)))) rfl rfl rfl ic_2 rfl <|
            q_move .n (.t rfl) rfl <|
            q_int .n (.t rfl) (.t rfl) rfl rfl <|
            q_idx_ow .n (.t rfl) (.t rfl) sl_28 (fun _ => by ((have hq := at_all hp1.ok (i := x1.2) (by omega); have he : edge (at' walk x1.2) = _ := rfl; simp only [edge] at hq; have hw1 := wr64 (n := at' walk x1.2 - 1) (by split at hq <;> omega); have hw2 := wr64 (n := 0 - at' walk x1.2) (by split at hq <;> omega); have hw3 := wr64 (n := (IntKind.wrap .i64 (0 - at' walk x1.2)) - 1) (by split at hq <;> omega); split at hq <;> first | omega | (simp only [put_len]; omega) | (rw [hw1]; omega) | (rw [hw3, hw2]; omega)))) rfl <|
            q_st_rowm (IntKind.wrap .i64 ((at' x1.1 (IntKind.wrap .i64 ((at' walk x1.2) - 1))) + amount)) .n rfl (.t rfl) (.t rfl) rfl ts_2 (by ((have hq := at_all hp1.ok (i := x1.2) (by omega); have he : edge (at' walk x1.2) = _ := rfl; simp only [edge] at hq; have hw1 := wr64 (n := at' walk x1.2 - 1) (by split at hq <;> omega); have hw2 := wr64 (n := 0 - at' walk x1.2) (by split at hq <;> omega); have hw3 := wr64 (n := (IntKind.wrap .i64 (0 - at' walk x1.2)) - 1) (by split at hq <;> omega); split at hq <;> first | omega | (simp only [put_len]; omega) | (rw [hw1]; omega) | (rw [hw3, hw2]; omega)))) rfl rfl <|
            Lex.nil) ?_
        refine run_endB ?_
        refine run_region (q_move .n (.t rfl) rfl <|
            q_add .n (.t rfl) (.c rfl) (fun _ => by omega) rfl <|
            q_assign .n (.t rfl) rfl <|
            Lex.nil) ?_
        exact run_again (put' x1.1 (IntKind.wrap .i64 ((at' walk x1.2) - 1)) (IntKind.wrap .i64 ((at' x1.1 (IntKind.wrap .i64 ((at' walk x1.2) - 1))) + amount)), x1.2 + 1) ⟨by omega, by omega, by (simp only [List.length_append, List.length_cons, List.length_nil, List.length_replicate, put_len] at * <;> omega)⟩ (by omega) (sub_of [] ⟨os_len rfl (by first | (simp only [put_len]; done) | (first | omega | assumption | (simp only [List.length_append, List.length_cons, List.length_nil, List.length_replicate, put_len] at * <;> omega) | (((have hq := at_all hp1.ok (i := x1.2) (by omega); have he : edge (at' walk x1.2) = _ := rfl; simp only [edge] at hq; have hw1 := wr64 (n := at' walk x1.2 - 1) (by split at hq <;> omega); have hw2 := wr64 (n := 0 - at' walk x1.2) (by split at hq <;> omega); have hw3 := wr64 (n := (IntKind.wrap .i64 (0 - at' walk x1.2)) - 1) (by split at hq <;> omega); split at hq <;> first | omega | (simp only [put_len]; omega) | (rw [hw1]; omega) | (rw [hw3, hw2]; omega))); done))), rfl, rfl, rfl, trivial⟩ ⟨rfl, trivial⟩ rfl)
      · try simp only [Bool.and_eq_true, Bool.or_eq_true, Bool.not_eq_true', Bool.and_eq_false_iff, Bool.or_eq_false_iff, Bool.not_eq_false', decide_eq_true_eq, decide_eq_false_iff_not, beq_iff_eq, bne_iff_ne, beq_eq_false_iff_ne, bne_eq_false_iff_eq, Bool.true_and, ne_eq, Decidable.not_not, Int.not_lt, Int.not_le, Nat.not_lt, Nat.not_le, strB_nil, strB_nil', strB_nnil, strB_nnil'] at h6
        refine run_region (q_move .n (.t rfl) rfl <|
            q_move .n (.t rfl) rfl <|
            q_move .n (.t rfl) rfl <|
            q_idx_rm .n (.t rfl) (.t rfl) sl_28 (fun _ => by omega) rfl <|
            q_ld1_ro .n (.t rfl) rfl ic_2 rfl <|
            q_neg .n (.t rfl) rfl <|
            q_int .n (.t rfl) (.c rfl) rfl rfl <|
            q_idx_ow .n (.t rfl) (.t rfl) sl_28 (fun _ => by ((have hq := at_all hp1.ok (i := x1.2) (by omega); have he : edge (at' walk x1.2) = _ := rfl; simp only [edge] at hq; have hw1 := wr64 (n := at' walk x1.2 - 1) (by split at hq <;> omega); have hw2 := wr64 (n := 0 - at' walk x1.2) (by split at hq <;> omega); have hw3 := wr64 (n := (IntKind.wrap .i64 (0 - at' walk x1.2)) - 1) (by split at hq <;> omega); split at hq <;> first | omega | (simp only [put_len]; omega) | (rw [hw1]; omega) | (rw [hw3, hw2]; omega)))) rfl <|
            q_ld1_row .n (.t rfl) rfl (fun _ => by ((have hq := at_all hp1.ok (i := x1.2) (by omega); have he : edge (at' walk x1.2) = _ := rfl; simp only [edge] at hq; have hw1 := wr64 (n := at' walk x1.2 - 1) (by split at hq <;> omega); have hw2 := wr64 (n := 0 - at' walk x1.2) (by split at hq <;> omega); have hw3 := wr64 (n := (IntKind.wrap .i64 (0 - at' walk x1.2)) - 1) (by split at hq <;> omega); split at hq <;> first | omega | (simp only [put_len]; omega) | (rw [hw1]; omega) | (rw [hw3, hw2]; omega)))) rfl rfl rfl ic_2 rfl <|
            q_move .n (.t rfl) rfl <|
            q_int .n (.t rfl) (.t rfl) rfl rfl <|
            q_idx_ow .n (.t rfl) (.t rfl) sl_28 (fun _ => by ((have hq := at_all hp1.ok (i := x1.2) (by omega); have he : edge (at' walk x1.2) = _ := rfl; simp only [edge] at hq; have hw1 := wr64 (n := at' walk x1.2 - 1) (by split at hq <;> omega); have hw2 := wr64 (n := 0 - at' walk x1.2) (by split at hq <;> omega); have hw3 := wr64 (n := (IntKind.wrap .i64 (0 - at' walk x1.2)) - 1) (by split at hq <;> omega); split at hq <;> first | omega | (simp only [put_len]; omega) | (rw [hw1]; omega) | (rw [hw3, hw2]; omega)))) rfl <|
            q_st_rowm (IntKind.wrap .i64 ((at' x1.1 (IntKind.wrap .i64 ((IntKind.wrap .i64 (0 - (at' walk x1.2))) - 1))) - amount)) .n rfl (.t rfl) (.t rfl) rfl ts_2 (by ((have hq := at_all hp1.ok (i := x1.2) (by omega); have he : edge (at' walk x1.2) = _ := rfl; simp only [edge] at hq; have hw1 := wr64 (n := at' walk x1.2 - 1) (by split at hq <;> omega); have hw2 := wr64 (n := 0 - at' walk x1.2) (by split at hq <;> omega); have hw3 := wr64 (n := (IntKind.wrap .i64 (0 - at' walk x1.2)) - 1) (by split at hq <;> omega); split at hq <;> first | omega | (simp only [put_len]; omega) | (rw [hw1]; omega) | (rw [hw3, hw2]; omega)))) rfl rfl <|
            Lex.nil) ?_
        refine run_endB ?_
        refine run_region (q_move .n (.t rfl) rfl <|
            q_add .n (.t rfl) (.c rfl) (fun _ => by omega) rfl <|
            q_assign .n (.t rfl) rfl <|
            Lex.nil) ?_
        exact run_again (put' x1.1 (IntKind.wrap .i64 ((IntKind.wrap .i64 (0 - (at' walk x1.2))) - 1)) (IntKind.wrap .i64 ((at' x1.1 (IntKind.wrap .i64 ((IntKind.wrap .i64 (0 - (at' walk x1.2))) - 1))) - amount)), x1.2 + 1) ⟨by omega, by omega, by (simp only [List.length_append, List.length_cons, List.length_nil, List.length_replicate, put_len] at * <;> omega)⟩ (by omega) (sub_of [] ⟨os_len rfl (by first | (simp only [put_len]; done) | (first | omega | assumption | (simp only [List.length_append, List.length_cons, List.length_nil, List.length_replicate, put_len] at * <;> omega) | (((have hq := at_all hp1.ok (i := x1.2) (by omega); have he : edge (at' walk x1.2) = _ := rfl; simp only [edge] at hq; have hw1 := wr64 (n := at' walk x1.2 - 1) (by split at hq <;> omega); have hw2 := wr64 (n := 0 - at' walk x1.2) (by split at hq <;> omega); have hw3 := wr64 (n := (IntKind.wrap .i64 (0 - at' walk x1.2)) - 1) (by split at hq <;> omega); split at hq <;> first | omega | (simp only [put_len]; omega) | (rw [hw1]; omega) | (rw [hw3, hw2]; omega))); done))), rfl, rfl, rfl, trivial⟩ ⟨rfl, trivial⟩ rfl)
    · try simp only [Bool.and_eq_true, Bool.or_eq_true, Bool.not_eq_true', Bool.and_eq_false_iff, Bool.or_eq_false_iff, Bool.not_eq_false', decide_eq_true_eq, decide_eq_false_iff_not, beq_iff_eq, bne_iff_ne, beq_eq_false_iff_ne, bne_eq_false_iff_eq, Bool.true_and, ne_eq, Decidable.not_not, Int.not_lt, Int.not_le, Nat.not_lt, Nat.not_le, strB_nil, strB_nil', strB_nnil, strB_nnil'] at h5
      refine run_exit rfl ?_
      exact run_cont hk3 (x1.1, x1.2) ⟨by omega, by omega, by omega, by omega⟩ (sub_of [] trivial ⟨rfl, trivial⟩ rfl)


end Go.Proofs.Ytlbpjgeoaiiamaa
