/-
  THE WALKS: each Go function computes its model. Conditions: as each theorem states them (hp1, hp2 ..).
-/
import Derived.Test.YtlbpjgeoaiiamaaMergesPlain21
import Derived.Test.YtlbpjgeoaiiamaaProg
import Derived.Test.YtlbpjgeoaiiamaaEngT
import Derived.Test.YtlbpjgeoaiiamaaEngP
import Derived.Test.YtlbpjgeoaiiamaaEngQ
import Derived.Test.YtlbpjgeoaiiamaaEngR
import Derived.Test.YtlbpjgeoaiiamaaEngU
set_option linter.unusedVariables false
set_option linter.unusedSimpArgs false
set_option linter.unusedSectionVars false
set_option linter.unnecessarySimpa false
namespace Go.Proofs.Ytlbpjgeoaiiamaa
open Go Go.RowKit Go.Proofs Go.Proofs.Ytlbpjgeoaiiamaa.E
theorem ss_22 : (slEl Try.prog 22).isSome = true := by kernel_rfl
theorem sl_22 : slEl Try.prog 22 = some (5, 1) := by kernel_rfl
theorem ic_5 : isCell Try.prog 5 = true := by kernel_rfl
theorem cv_5_2 : cvInt Try.prog 5 2 = some .i64 := by kernel_rfl
theorem zv_109 : zeroV Try.prog 109 = some (.st [.nls, .int .i64 0, .int .u64 0]) := by kernel_rfl
theorem pl_109 : places Try.prog 109 = some [(0, 1), (1, 1), (2, 1)] := by kernel_rfl
theorem fo_109_1 : fldOff Try.prog 109 1 = some 1 := by kernel_rfl
theorem ic_3 : isCell Try.prog 3 = true := by kernel_rfl
theorem fo_109_0 : fldOff Try.prog 109 0 = some 0 := by kernel_rfl
theorem ic_22 : isCell Try.prog 22 = true := by kernel_rfl
theorem fmo : Try.prog.follows .mixedOrders = true := by kernel_rfl
theorem cv_5_3 : cvInt Try.prog 5 3 = some .i64 := by kernel_rfl
theorem ts_3 : tySz Try.prog 3 = some 1 := by kernel_rfl
theorem fo_109_2 : fldOff Try.prog 109 2 = some 2 := by kernel_rfl
theorem ic_107 : isCell Try.prog 107 = true := by kernel_rfl
theorem cv_3_107 : cvInt Try.prog 3 107 = some .u64 := by kernel_rfl
theorem ts_107 : tySz Try.prog 107 = some 1 := by kernel_rfl
theorem cv_107_2 : cvInt Try.prog 107 2 = some .i64 := by kernel_rfl
theorem en_67 : entB Try.prog 67 = true := by kernel_rfl
theorem en_30 : entB Try.prog 30 = true := by kernel_rfl
theorem si_53 : slInfo Try.prog 53 = some (9, 1, 16) := by kernel_rfl
theorem zv_9 : zeroV Try.prog 9 = some (.str ([] : List UInt8)) := by kernel_rfl
theorem si_47 : slInfo Try.prog 47 = some (100, 2, 24) := by kernel_rfl
theorem zv_100 : zeroV Try.prog 100 = some (.st [.str ([] : List UInt8), .int .i64 0]) := by kernel_rfl
theorem en_62 : entB Try.prog 62 = true := by kernel_rfl
theorem sl_53 : slEl Try.prog 53 = some (9, 1) := by kernel_rfl
theorem ic_9 : isCell Try.prog 9 = true := by kernel_rfl
theorem pl_100 : places Try.prog 100 = some [(0, 1), (1, 1)] := by kernel_rfl
theorem en_26 : entB Try.prog 26 = true := by kernel_rfl
theorem en_47 : entB Try.prog 47 = true := by kernel_rfl
theorem ss_47 : (slEl Try.prog 47).isSome = true := by kernel_rfl
theorem sl_47 : slEl Try.prog 47 = some (100, 2) := by kernel_rfl
theorem fo_100_0 : fldOff Try.prog 100 0 = some 0 := by kernel_rfl
theorem ag_100 : aggSz Try.prog 100 = some 2 := by kernel_rfl
theorem en_91 : entB Try.prog 91 = true := by kernel_rfl
theorem en_92 : entB Try.prog 92 = true := by kernel_rfl
theorem en_48 : entB Try.prog 48 = true := by kernel_rfl
theorem st_9 : isStr Try.prog 9 = true := by kernel_rfl
theorem en_122 : entB Try.prog 122 = true := by kernel_rfl
theorem en_88 : entB Try.prog 88 = true := by kernel_rfl
theorem fo_100_1 : fldOff Try.prog 100 1 = some 1 := by kernel_rfl
theorem ic_2 : isCell Try.prog 2 = true := by kernel_rfl
theorem en_45 : entB Try.prog 45 = true := by kernel_rfl
theorem ts_100 : tySz Try.prog 100 = some 2 := by kernel_rfl
theorem en_93 : entB Try.prog 93 = true := by kernel_rfl
theorem ss_136 : (slEl Try.prog 136).isSome = true := by kernel_rfl
theorem sl_136 : slEl Try.prog 136 = some (47, 1) := by kernel_rfl
theorem ic_47 : isCell Try.prog 47 = true := by kernel_rfl
theorem en_96 : entB Try.prog 96 = true := by kernel_rfl
theorem en_97 : entB Try.prog 97 = true := by kernel_rfl
theorem ss_53 : (slEl Try.prog 53).isSome = true := by kernel_rfl
theorem en_123 : entB Try.prog 123 = true := by kernel_rfl
theorem ts_9 : tySz Try.prog 9 = some 1 := by kernel_rfl
theorem zv_97 : zeroV Try.prog 97 = some (.st [.int .i64 0, .bool false]) := by kernel_rfl
theorem en_98 : entB Try.prog 98 = true := by kernel_rfl
theorem pl_97 : places Try.prog 97 = some [(0, 1), (1, 1)] := by kernel_rfl
theorem ts_97 : tySz Try.prog 97 = some 2 := by kernel_rfl
theorem ag_97 : aggSz Try.prog 97 = some 2 := by kernel_rfl
theorem en_52 : entB Try.prog 52 = true := by kernel_rfl
theorem si_136 : slInfo Try.prog 136 = some (47, 1, 24) := by kernel_rfl
theorem zv_47 : zeroV Try.prog 47 = some (.nls) := by kernel_rfl
theorem en_51 : entB Try.prog 51 = true := by kernel_rfl
theorem en_95 : entB Try.prog 95 = true := by kernel_rfl
theorem en_94 : entB Try.prog 94 = true := by kernel_rfl
theorem en_49 : entB Try.prog 49 = true := by kernel_rfl
theorem en_50 : entB Try.prog 50 = true := by kernel_rfl
theorem fo_97_1 : fldOff Try.prog 97 1 = some 1 := by kernel_rfl
theorem ic_4 : isCell Try.prog 4 = true := by kernel_rfl
theorem fo_97_0 : fldOff Try.prog 97 0 = some 0 := by kernel_rfl
theorem en_53 : entB Try.prog 53 = true := by kernel_rfl
theorem en_133 : entB Try.prog 133 = true := by kernel_rfl
theorem en_134 : entB Try.prog 134 = true := by kernel_rfl
theorem en_121 : entB Try.prog 121 = true := by kernel_rfl
theorem en_82 : entB Try.prog 82 = true := by kernel_rfl
theorem en_99 : entB Try.prog 99 = true := by kernel_rfl
theorem en_54 : entB Try.prog 54 = true := by kernel_rfl
theorem si_57 : slInfo Try.prog 57 = some (143, 4, 56) := by kernel_rfl
theorem zv_143 : zeroV Try.prog 143 = some (.st [.int .i64 0, .int .i64 0, .str ([] : List UInt8), .nls]) := by kernel_rfl
theorem ss_57 : (slEl Try.prog 57).isSome = true := by kernel_rfl
theorem sl_57 : slEl Try.prog 57 = some (143, 4) := by kernel_rfl
theorem fo_143_3 : fldOff Try.prog 143 3 = some 3 := by kernel_rfl
theorem pl_143 : places Try.prog 143 = some [(0, 1), (1, 1), (2, 1), (3, 1)] := by kernel_rfl
theorem ts_143 : tySz Try.prog 143 = some 4 := by kernel_rfl
theorem en_100 : entB Try.prog 100 = true := by kernel_rfl
theorem fo_143_2 : fldOff Try.prog 143 2 = some 2 := by kernel_rfl
theorem ag_143 : aggSz Try.prog 143 = some 4 := by kernel_rfl
theorem en_55 : entB Try.prog 55 = true := by kernel_rfl
theorem ss_28 : (slEl Try.prog 28).isSome = true := by kernel_rfl
theorem sl_28 : slEl Try.prog 28 = some (2, 1) := by kernel_rfl
theorem en_130 : entB Try.prog 130 = true := by kernel_rfl
theorem en_118 : entB Try.prog 118 = true := by kernel_rfl
theorem en_117 : entB Try.prog 117 = true := by kernel_rfl
theorem en_104 : entB Try.prog 104 = true := by kernel_rfl
theorem fo_143_0 : fldOff Try.prog 143 0 = some 0 := by kernel_rfl
theorem fo_143_1 : fldOff Try.prog 143 1 = some 1 := by kernel_rfl
theorem en_58 : entB Try.prog 58 = true := by kernel_rfl
theorem en_101 : entB Try.prog 101 = true := by kernel_rfl
theorem en_75 : entB Try.prog 75 = true := by kernel_rfl
theorem si_28 : slInfo Try.prog 28 = some (2, 1, 8) := by kernel_rfl
theorem zv_2 : zeroV Try.prog 2 = some (.int .i64 0) := by kernel_rfl
theorem en_126 : entB Try.prog 126 = true := by kernel_rfl
theorem en_102 : entB Try.prog 102 = true := by kernel_rfl
theorem en_103 : entB Try.prog 103 = true := by kernel_rfl
theorem en_56 : entB Try.prog 56 = true := by kernel_rfl
theorem en_57 : entB Try.prog 57 = true := by kernel_rfl
theorem us_57 : Try.prog.underlying 57 = some (.slice 143) := by kernel_rfl
theorem us_47 : Try.prog.underlying 47 = some (.slice 100) := by kernel_rfl
theorem en_105 : entB Try.prog 105 = true := by kernel_rfl
theorem en_106 : entB Try.prog 106 = true := by kernel_rfl
theorem ts_47 : tySz Try.prog 47 = some 1 := by kernel_rfl
theorem en_59 : entB Try.prog 59 = true := by kernel_rfl
theorem en_18 : entB Try.prog 18 = true := by kernel_rfl
theorem en_60 : entB Try.prog 60 = true := by kernel_rfl
theorem en_107 : entB Try.prog 107 = true := by kernel_rfl
theorem en_61 : entB Try.prog 61 = true := by kernel_rfl
theorem en_5 : entB Try.prog 5 = true := by kernel_rfl
theorem en_16 : entB Try.prog 16 = true := by kernel_rfl
theorem en_17 : entB Try.prog 17 = true := by kernel_rfl
theorem en_19 : entB Try.prog 19 = true := by kernel_rfl
theorem en_20 : entB Try.prog 20 = true := by kernel_rfl
theorem ub_4 : Try.prog.underlying 4 = some .bool := by kernel_rfl
theorem en_21 : entB Try.prog 21 = true := by kernel_rfl
theorem en_22 : entB Try.prog 22 = true := by kernel_rfl
theorem en_14 : entB Try.prog 14 = true := by kernel_rfl
theorem en_23 : entB Try.prog 23 = true := by kernel_rfl
theorem en_24 : entB Try.prog 24 = true := by kernel_rfl
theorem en_25 : entB Try.prog 25 = true := by kernel_rfl

/-! ### laws_r8Long -/
theorem c_laws_r8Long (code : List Int) (more : List Int) : Con Try.prog 5 [.sl 1 (code.map (V.int .u8)), .sl 1 (more.map (V.int .u8))] [] (.bool (m_laws_r8Long code more)) ([]) := by
  refine con_intro (out := fun r : Bool => ((.bool r : V), ([] : List (Nat × Option O)))) (r := (m_laws_r8Long code more)) Try.func5 rfl Try.ntmps5 rfl ?_
  refine run_fact (t := 0) rfl fun hl => ?_
  have l1 := hl; clear hl; simp only [List.length_map] at l1
  refine run_fact (t := 1) rfl fun hl => ?_
  have l2 := hl; clear hl; simp only [List.length_map] at l2
  refine run_seq ?_
  refine run_region (q_assign .n (.c rfl) rfl <|
      Lex.nil) ?_
  refine run_seq ?_
  refine run_region (q_move .n (.t rfl) rfl <|
      q_len .n (.t rfl) rfl len_map ss_22 rfl <|
      q_int .n (.t rfl) (.c rfl) rfl rfl <|
      q_move .n (.t rfl) rfl <|
      q_move (.f rfl rfl) (.t rfl) rfl <|
      q_len (.f rfl rfl) (.u rfl id) rfl len_map ss_22 rfl <|
      q_int (.f rfl rfl) (.u rfl id) (.c rfl) rfl rfl <|
      q_or .n (.t rfl) (.u rfl id) rfl <|
      q_assign .n (.t rfl) rfl <|
      Lex.nil) ?_
  exact run_ret [] (.cons (.t rfl rfl) .nil) rfl trivial rfl

/-! ### laws_r8At -/
theorem c_laws_r8At (code : List Int) (k_ : Int) (n_ : Int) (hp1 : 0 ≤ k_) : Con Try.prog 14 [.sl 1 (code.map (V.int .u8)), .int .i64 k_, .int .i64 n_] [] (.int .i64 (m_laws_r8At code k_ n_)) ([]) := by
  refine con_intro (out := fun r : Int => ((.int .i64 r : V), ([] : List (Nat × Option O)))) (r := (m_laws_r8At code k_ n_)) Try.func14 rfl Try.ntmps14 rfl ?_
  refine run_fact (t := 0) rfl fun hl => ?_
  have l1 := hl; clear hl; simp only [List.length_map] at l1
  refine run_seq ?_
  refine run_region (q_assign .n (.c rfl) rfl <|
      Lex.nil) ?_
  refine run_seq ?_
  refine run_seq ?_
  refine run_region (q_move .n (.t rfl) rfl <|
      q_int .n (.t rfl) (.c rfl) rfl rfl <|
      q_move .n (.t rfl) rfl <|
      q_move (.f rfl rfl) (.t rfl) rfl <|
      q_move (.f rfl rfl) (.t rfl) rfl <|
      q_len (.f rfl rfl) (.u rfl id) rfl len_map ss_22 rfl <|
      q_int (.f rfl rfl) (.u rfl id) (.u rfl id) rfl rfl <|
      q_or .n (.t rfl) (.u rfl id) rfl <|
      Lex.nil) ?_
  refine run_cond (.t rfl) rfl (fun h2 => ?_) (fun h2 => ?_)
  · try simp only [Bool.and_eq_true, Bool.or_eq_true, Bool.not_eq_true', Bool.and_eq_false_iff, Bool.or_eq_false_iff, Bool.not_eq_false', decide_eq_true_eq, decide_eq_false_iff_not, beq_iff_eq, bne_iff_ne, beq_eq_false_iff_ne, bne_eq_false_iff_eq, Bool.true_and, ne_eq, Decidable.not_not, Int.not_lt, Int.not_le, Nat.not_lt, Nat.not_le, strB_nil, strB_nil', strB_nnil, strB_nnil'] at h2
    refine run_seq ?_
    refine run_region (q_assign .n (.c rfl) rfl <|
        Lex.nil) ?_
    exact run_ret [] (.cons (.t rfl rfl) .nil) rfl trivial rfl
  · try simp only [Bool.and_eq_true, Bool.or_eq_true, Bool.not_eq_true', Bool.and_eq_false_iff, Bool.or_eq_false_iff, Bool.not_eq_false', decide_eq_true_eq, decide_eq_false_iff_not, beq_iff_eq, bne_iff_ne, beq_eq_false_iff_ne, bne_eq_false_iff_eq, Bool.true_and, ne_eq, Decidable.not_not, Int.not_lt, Int.not_le, Nat.not_lt, Nat.not_le, strB_nil, strB_nil', strB_nnil, strB_nnil'] at h2
    refine run_skip ?_
    refine run_seq ?_
    refine run_region (q_move .n (.t rfl) rfl <|
        q_move .n (.t rfl) rfl <|
        q_idx_rm .n (.t rfl) (.t rfl) sl_22 (fun _ => by omega) rfl <|
        q_ld1_ro .n (.t rfl) rfl ic_5 rfl <|
        q_conv .n (.t rfl) cv_5_2 rfl <|
        q_move .n (.t rfl) rfl <|
        q_rem .n (.t rfl) (.t rfl) (fun hg => by omega) rfl <|
        q_assign .n (.t rfl) rfl <|
        Lex.nil) ?_
    exact run_ret [] (.cons (.t rfl rfl) .nil) rfl trivial rfl

/-! ### spec_l00From -/
theorem c_spec_l00From (code : List Int) : Con Try.prog 26 [.sl 1 (code.map (V.int .u8))] [] (.op 100 0 0 0) ([(100, some (.box 109 [.sl 1 ((m_spec_l00From code).code.map (V.int .u8)), .int .i64 (m_spec_l00From code).at_, .int .u64 (m_spec_l00From code).seed]))]) := by
  refine con_intro (out := fun r : gl00Src => ((.op 100 0 0 0 : V), ([(100, some (.box 109 [.sl 1 (r.code.map (V.int .u8)), .int .i64 r.at_, .int .u64 r.seed]))] : List (Nat × Option O)))) (r := (m_spec_l00From code)) Try.func26 rfl Try.ntmps26 rfl ?_
  refine run_fact (t := 0) rfl fun hl => ?_
  have l1 := hl; clear hl; simp only [List.length_map] at l1
  refine run_seq ?_
  refine run_region (q_unread .n rfl rfl <|
      Lex.nil) ?_
  refine run_seq ?_
  refine run_region (q_move .n (.t rfl) rfl <|
      q_build (us := [.sl 1 (code.map (V.int .u8)), .int .i64 0, .int .u64 0]) .n (.cons (.t rfl) .nil) zv_109 pl_109 rfl rfl rfl <|
      q_box (l := 200) .n rfl (.t rfl) rfl rfl rfl rfl <|
      q_assign .n (.t rfl) rfl <|
      Lex.nil) ?_
  exact run_ret [(100, 200)] (.cons (.t rfl rfl) .nil) rfl ⟨rfl, trivial⟩ rfl

/-! ### spec_l00Src_next -/
theorem c_spec_l00Src_next (s_ : gl00Src) (hp1 : Lim s_ 1000000) : Con Try.prog 67 [.op 0 0 0 0] [(0, some (.box 109 [.sl 1 (s_.code.map (V.int .u8)), .int .i64 s_.at_, .int .u64 s_.seed]))] (.int .i64 (m_spec_l00Src_next s_).1) ([(0, some (.box 109 [.sl 1 ((m_spec_l00Src_next s_).2.code.map (V.int .u8)), .int .i64 (m_spec_l00Src_next s_).2.at_, .int .u64 (m_spec_l00Src_next s_).2.seed]))]) := by
  refine con_intro (out := fun r : Int × gl00Src => ((.int .i64 r.1 : V), ([(0, some (.box 109 [.sl 1 (r.2.code.map (V.int .u8)), .int .i64 r.2.at_, .int .u64 r.2.seed]))] : List (Nat × Option O)))) (r := (m_spec_l00Src_next s_)) Try.func67 rfl Try.ntmps67 rfl ?_
  have hL := hp1.2 (by decide)
  refine run_seq ?_
  refine run_region (q_assign .n (.c rfl) rfl <|
      Lex.nil) ?_
  refine run_seq ?_
  refine run_region (q_assign .n (.c rfl) rfl <|
      Lex.nil) ?_
  refine run_seq ?_
  refine run_seq ?_
  refine run_draw fmo (q_move .n (.t rfl) rfl <|
      q_nilc_ow .n (.t rfl) rfl <|
      q_fld_ow .n (.t rfl) fo_109_1 rfl <|
      q_ld1_ow .n (.t rfl) rfl (.inr rfl) (fun _ => rfl) rfl ic_3 rfl <|
      q_move .n (.t rfl) rfl <|
      q_nilc_ow .n (.t rfl) rfl <|
      q_fld_ow .n (.t rfl) fo_109_0 rfl <|
      q_ld1_ow .n (.t rfl) rfl (.inr rfl) (fun _ => rfl) rfl ic_22 rfl <|
      q_len .n (.t rfl) rfl len_map ss_22 rfl <|
      q_int .n (.t rfl) (.t rfl) rfl rfl <|
      Lex.nil) (by kernel_rfl) ?_
  refine run_fact (t := 11) rfl fun hl => ?_
  have l1 := hl; clear hl; simp only [List.length_map] at l1
  refine run_join _ _ rfl (fun v2 : Int => True) (fun v2 => ⟨[(0, some (true, .op 0 0 0 0)), (3, some (true, .int .i64 v2))], [(0, some (.box 109 [.sl 1 (s_.code.map (V.int .u8)), .int .i64 s_.at_, .int .u64 s_.seed]))]⟩) (fun v2 _ => ?_) (fun j3 hj4 => ?_)
  · refine run_seq ?_
    refine run_region (q_move .n (.t rfl) rfl <|
        q_nilc_ow .n (.t rfl) rfl <|
        q_fld_ow .n (.t rfl) fo_109_1 rfl <|
        q_ld1_ow .n (.t rfl) rfl (.inr rfl) (fun _ => rfl) rfl ic_3 rfl <|
        q_int .n (.t rfl) (.c rfl) rfl rfl <|
        q_nilc_ow .n (.t rfl) rfl <|
        q_fld_ow .n (.t rfl) fo_109_1 rfl <|
        q_st_boxm [.sl 1 (s_.code.map (V.int .u8)), .int .i64 (IntKind.wrap .i64 (s_.at_ + 1)), .int .u64 s_.seed] .n rfl (.t rfl) (.t rfl) rfl ts_3 rfl rfl <|
        Lex.nil) ?_
    refine run_seq ?_
    refine run_region (q_move .n (.t rfl) rfl <|
        q_move .n (.t rfl) rfl <|
        q_nilc_ow .n (.t rfl) rfl <|
        q_fld_ow .n (.t rfl) fo_109_2 rfl <|
        q_ld1_ow .n (.t rfl) rfl (.inr rfl) (fun _ => rfl) rfl ic_107 rfl <|
        q_int .n (.t rfl) (.c rfl) rfl rfl <|
        q_move .n (.t rfl) rfl <|
        q_conv .n (.t rfl) cv_3_107 rfl <|
        q_int .n (.t rfl) (.t rfl) rfl rfl <|
        q_int .n (.t rfl) (.c rfl) rfl rfl <|
        q_nilc_ow .n (.t rfl) rfl <|
        q_fld_ow .n (.t rfl) fo_109_2 rfl <|
        q_st_boxm [.sl 1 (s_.code.map (V.int .u8)), .int .i64 (IntKind.wrap .i64 (s_.at_ + 1)), .int .u64 (IntKind.wrap .u64 ((IntKind.wrap .u64 ((IntKind.wrap .u64 (s_.seed * 6364136223846793005)) + (IntKind.wrap .u64 v2))) + 1442695040888963407))] .n rfl (.t rfl) (.t rfl) rfl ts_107 rfl rfl <|
        Lex.nil) ?_
    refine run_seq ?_
    refine run_seq ?_
    refine run_draw fmo (q_move .n (.t rfl) rfl <|
        q_nilc_ow .n (.t rfl) rfl <|
        q_fld_ow .n (.t rfl) fo_109_1 rfl <|
        q_ld1_ow .n (.t rfl) rfl (.inr rfl) (fun _ => rfl) rfl ic_3 rfl <|
        q_move .n (.t rfl) rfl <|
        q_nilc_ow .n (.t rfl) rfl <|
        q_fld_ow .n (.t rfl) fo_109_0 rfl <|
        q_ld1_ow .n (.t rfl) rfl (.inr rfl) (fun _ => rfl) rfl ic_22 rfl <|
        q_len .n (.t rfl) rfl len_map ss_22 rfl <|
        q_int .n (.t rfl) (.t rfl) rfl rfl <|
        Lex.nil) (by kernel_rfl) ?_
    refine run_cond (.t rfl) rfl (fun h6 => ?_) (fun h6 => ?_)
    · try simp only [Bool.and_eq_true, Bool.or_eq_true, Bool.not_eq_true', Bool.and_eq_false_iff, Bool.or_eq_false_iff, Bool.not_eq_false', decide_eq_true_eq, decide_eq_false_iff_not, beq_iff_eq, bne_iff_ne, beq_eq_false_iff_ne, bne_eq_false_iff_eq, Bool.true_and, ne_eq, Decidable.not_not, Int.not_lt, Int.not_le, Nat.not_lt, Nat.not_le, strB_nil, strB_nil', strB_nnil, strB_nnil'] at h6
      refine run_seq ?_
      refine run_region (q_move .n (.t rfl) rfl <|
          q_assign .n (.t rfl) rfl <|
          Lex.nil) ?_
      exact run_ret [] (.cons (.t rfl rfl) .nil) rfl ⟨rfl, trivial⟩ rfl
    · try simp only [Bool.and_eq_true, Bool.or_eq_true, Bool.not_eq_true', Bool.and_eq_false_iff, Bool.or_eq_false_iff, Bool.not_eq_false', decide_eq_true_eq, decide_eq_false_iff_not, beq_iff_eq, bne_iff_ne, beq_eq_false_iff_ne, bne_eq_false_iff_eq, Bool.true_and, ne_eq, Decidable.not_not, Int.not_lt, Int.not_le, Nat.not_lt, Nat.not_le, strB_nil, strB_nil', strB_nnil, strB_nnil'] at h6
      refine run_skip ?_
      refine run_seq ?_
      refine run_region (q_move .n (.t rfl) rfl <|
          q_nilc_ow .n (.t rfl) rfl <|
          q_fld_ow .n (.t rfl) fo_109_2 rfl <|
          q_ld1_ow .n (.t rfl) rfl (.inr rfl) (fun _ => rfl) rfl ic_107 rfl <|
          q_shr .n (.t rfl) (.c rfl) (fun _ => by omega) rfl <|
          q_int .n (.t rfl) (.c rfl) rfl rfl <|
          q_conv .n (.t rfl) cv_107_2 rfl <|
          q_assign .n (.t rfl) rfl <|
          Lex.nil) ?_
      exact run_ret [] (.cons (.t rfl rfl) .nil) rfl ⟨rfl, trivial⟩ rfl
  · refine run_cond (.t rfl) rfl (fun h5 => ?_) (fun h5 => ?_)
    · try simp only [Bool.and_eq_true, Bool.or_eq_true, Bool.not_eq_true', Bool.and_eq_false_iff, Bool.or_eq_false_iff, Bool.not_eq_false', decide_eq_true_eq, decide_eq_false_iff_not, beq_iff_eq, bne_iff_ne, beq_eq_false_iff_ne, bne_eq_false_iff_eq, Bool.true_and, ne_eq, Decidable.not_not, Int.not_lt, Int.not_le, Nat.not_lt, Nat.not_le, strB_nil, strB_nil', strB_nnil, strB_nnil'] at h5
      refine run_draw fmo (q_move .n (.t rfl) rfl <|
          q_nilc_ow .n (.t rfl) rfl <|
          q_fld_ow .n (.t rfl) fo_109_0 rfl <|
          q_ld1_ow .n (.t rfl) rfl (.inr rfl) (fun _ => rfl) rfl ic_22 rfl <|
          q_move .n (.t rfl) rfl <|
          q_nilc_ow .n (.t rfl) rfl <|
          q_fld_ow .n (.t rfl) fo_109_1 rfl <|
          q_ld1_ow .n (.t rfl) rfl (.inr rfl) (fun _ => rfl) rfl ic_3 rfl <|
          q_idx_rm .n (.t rfl) (.t rfl) sl_22 (fun _ => by omega) rfl <|
          q_ld1_ro .n (.t rfl) rfl ic_5 rfl <|
          q_conv .n (.t rfl) cv_5_3 rfl <|
          q_assign .n (.t rfl) rfl <|
          Lex.nil) (by kernel_rfl) ?_
      exact run_cont hj4 (IntKind.wrap .i64 (at' s_.code s_.at_)) trivial (sub_of [] ⟨rfl, rfl, trivial⟩ ⟨rfl, trivial⟩ rfl)
    · try simp only [Bool.and_eq_true, Bool.or_eq_true, Bool.not_eq_true', Bool.and_eq_false_iff, Bool.or_eq_false_iff, Bool.not_eq_false', decide_eq_true_eq, decide_eq_false_iff_not, beq_iff_eq, bne_iff_ne, beq_eq_false_iff_ne, bne_eq_false_iff_eq, Bool.true_and, ne_eq, Decidable.not_not, Int.not_lt, Int.not_le, Nat.not_lt, Nat.not_le, strB_nil, strB_nil', strB_nnil, strB_nnil'] at h5
      refine run_skip ?_
      exact run_cont hj4 0 trivial (sub_of [] ⟨rfl, rfl, trivial⟩ ⟨rfl, trivial⟩ rfl)

/-! ### spec_l00Src_pick -/
theorem c_spec_l00Src_pick (s_ : gl00Src) (n_ : Int) (hp1 : Lim s_ 900000) : Con Try.prog 30 [.op 0 0 0 0, .int .i64 n_] [(0, some (.box 109 [.sl 1 (s_.code.map (V.int .u8)), .int .i64 s_.at_, .int .u64 s_.seed]))] (.int .i64 (m_spec_l00Src_pick s_ n_).1) ([(0, some (.box 109 [.sl 1 ((m_spec_l00Src_pick s_ n_).2.code.map (V.int .u8)), .int .i64 (m_spec_l00Src_pick s_ n_).2.at_, .int .u64 (m_spec_l00Src_pick s_ n_).2.seed]))]) := by
  refine con_intro (out := fun r : Int × gl00Src => ((.int .i64 r.1 : V), ([(0, some (.box 109 [.sl 1 (r.2.code.map (V.int .u8)), .int .i64 r.2.at_, .int .u64 r.2.seed]))] : List (Nat × Option O)))) (r := (m_spec_l00Src_pick s_ n_)) Try.func30 rfl Try.ntmps30 rfl ?_
  refine run_seq ?_
  refine run_region (q_assign .n (.c rfl) rfl <|
      Lex.nil) ?_
  refine run_seq ?_
  refine run_seq ?_
  refine run_region (q_move .n (.t rfl) rfl <|
      q_int .n (.t rfl) (.c rfl) rfl rfl <|
      Lex.nil) ?_
  refine run_cond (.t rfl) rfl (fun h1 => ?_) (fun h1 => ?_)
  · try simp only [Bool.and_eq_true, Bool.or_eq_true, Bool.not_eq_true', Bool.and_eq_false_iff, Bool.or_eq_false_iff, Bool.not_eq_false', decide_eq_true_eq, decide_eq_false_iff_not, beq_iff_eq, bne_iff_ne, beq_eq_false_iff_ne, bne_eq_false_iff_eq, Bool.true_and, ne_eq, Decidable.not_not, Int.not_lt, Int.not_le, Nat.not_lt, Nat.not_le, strB_nil, strB_nil', strB_nnil, strB_nnil'] at h1
    refine run_seq ?_
    refine run_region (q_assign .n (.c rfl) rfl <|
        Lex.nil) ?_
    exact run_ret [] (.cons (.t rfl rfl) .nil) rfl ⟨rfl, trivial⟩ rfl
  · try simp only [Bool.and_eq_true, Bool.or_eq_true, Bool.not_eq_true', Bool.and_eq_false_iff, Bool.or_eq_false_iff, Bool.not_eq_false', decide_eq_true_eq, decide_eq_false_iff_not, beq_iff_eq, bne_iff_ne, beq_eq_false_iff_ne, bne_eq_false_iff_eq, Bool.true_and, ne_eq, Decidable.not_not, Int.not_lt, Int.not_le, Nat.not_lt, Nat.not_le, strB_nil, strB_nil', strB_nnil, strB_nnil'] at h1
    refine run_skip ?_
    refine run_seq ?_
    refine run_region (q_move .n (.t rfl) rfl <|
        q_callM (full := false) [(0, 0)] [] .n rfl .f en_67 (.cons (.t rfl) .nil) (.cons (.b (.mutp rfl)) .nil) (c_spec_l00Src_next s_ (by (try dsimp only); (with_reducible (first | apply Lim.mono | apply Lim.out | apply LimA.mono)); (repeat (with_reducible (first | assumption | apply Lim.pick | apply Lim.next | apply Lim.mk))); omega)) ⟨rfl, trivial⟩ rfl rfl (fun h => Bool.noConfusion h) (fun h => Bool.noConfusion h) rfl <|
        q_assign .n (.t rfl) rfl <|
        Lex.nil) ?_
    refine run_seq ?_
    refine run_seq ?_
    refine run_region (q_move .n (.t rfl) rfl <|
        q_int .n (.t rfl) (.c rfl) rfl rfl <|
        Lex.nil) ?_
    refine run_cond (.t rfl) rfl (fun h2 => ?_) (fun h2 => ?_)
    · try simp only [Bool.and_eq_true, Bool.or_eq_true, Bool.not_eq_true', Bool.and_eq_false_iff, Bool.or_eq_false_iff, Bool.not_eq_false', decide_eq_true_eq, decide_eq_false_iff_not, beq_iff_eq, bne_iff_ne, beq_eq_false_iff_ne, bne_eq_false_iff_eq, Bool.true_and, ne_eq, Decidable.not_not, Int.not_lt, Int.not_le, Nat.not_lt, Nat.not_le, strB_nil, strB_nil', strB_nnil, strB_nnil'] at h2
      refine run_region (q_move .n (.t rfl) rfl <|
          q_int .n (.t rfl) (.c rfl) rfl rfl <|
          q_move .n (.t rfl) rfl <|
          q_callM (full := false) [(0, 0)] [] .n rfl .f en_67 (.cons (.t rfl) .nil) (.cons (.b (.mutp rfl)) .nil) (c_spec_l00Src_next (m_spec_l00Src_next s_).2 (by (try dsimp only); (with_reducible (first | apply Lim.mono | apply Lim.out | apply LimA.mono)); (repeat (with_reducible (first | assumption | apply Lim.pick | apply Lim.next | apply Lim.mk))); omega)) ⟨rfl, trivial⟩ rfl rfl (fun h => Bool.noConfusion h) (fun h => Bool.noConfusion h) rfl <|
          q_int .n (.t rfl) (.t rfl) rfl rfl <|
          q_assign .n (.t rfl) rfl <|
          Lex.nil) ?_
      refine run_seq ?_
      refine run_region (q_move .n (.t rfl) rfl <|
          q_move .n (.t rfl) rfl <|
          q_rem .n (.t rfl) (.t rfl) (fun hg => by omega) rfl <|
          q_assign .n (.t rfl) rfl <|
          Lex.nil) ?_
      exact run_ret [] (.cons (.t rfl rfl) .nil) rfl ⟨rfl, trivial⟩ rfl
    · try simp only [Bool.and_eq_true, Bool.or_eq_true, Bool.not_eq_true', Bool.and_eq_false_iff, Bool.or_eq_false_iff, Bool.not_eq_false', decide_eq_true_eq, decide_eq_false_iff_not, beq_iff_eq, bne_iff_ne, beq_eq_false_iff_ne, bne_eq_false_iff_eq, Bool.true_and, ne_eq, Decidable.not_not, Int.not_lt, Int.not_le, Nat.not_lt, Nat.not_le, strB_nil, strB_nil', strB_nnil, strB_nnil'] at h2
      refine run_skip ?_
      refine run_seq ?_
      refine run_region (q_move .n (.t rfl) rfl <|
          q_move .n (.t rfl) rfl <|
          q_rem .n (.t rfl) (.t rfl) (fun hg => by omega) rfl <|
          q_assign .n (.t rfl) rfl <|
          Lex.nil) ?_
      exact run_ret [] (.cons (.t rfl rfl) .nil) rfl ⟨rfl, trivial⟩ rfl

/-! ### spec_l00Src_one -/
theorem c_spec_l00Src_one (s_ : gl00Src) (n_ : Int) (hp1 : Lim s_ 800000) : Con Try.prog 62 [.op 0 0 0 0, .int .i64 n_] [(0, some (.box 109 [.sl 1 (s_.code.map (V.int .u8)), .int .i64 s_.at_, .int .u64 s_.seed]))] (.bool (m_spec_l00Src_one s_ n_).1) ([(0, some (.box 109 [.sl 1 ((m_spec_l00Src_one s_ n_).2.code.map (V.int .u8)), .int .i64 (m_spec_l00Src_one s_ n_).2.at_, .int .u64 (m_spec_l00Src_one s_ n_).2.seed]))]) := by
  refine con_intro (out := fun r : Bool × gl00Src => ((.bool r.1 : V), ([(0, some (.box 109 [.sl 1 (r.2.code.map (V.int .u8)), .int .i64 r.2.at_, .int .u64 r.2.seed]))] : List (Nat × Option O)))) (r := (m_spec_l00Src_one s_ n_)) Try.func62 rfl Try.ntmps62 rfl ?_
  refine run_seq ?_
  refine run_region (q_assign .n (.c rfl) rfl <|
      Lex.nil) ?_
  refine run_seq ?_
  refine run_region (q_move .n (.t rfl) rfl <|
      q_move .n (.t rfl) rfl <|
      q_callM (full := false) [(0, 0)] [] .n rfl .f en_30 (.cons (.t rfl) (.cons (.t rfl) .nil)) (.cons (.b (.mutp rfl)) (.cons (.b (.a (.same rfl))) .nil)) (c_spec_l00Src_pick s_ n_ (by (try dsimp only); (with_reducible (first | apply Lim.mono | apply Lim.out | apply LimA.mono)); (repeat (with_reducible (first | assumption | apply Lim.pick | apply Lim.next | apply Lim.mk))); omega)) ⟨rfl, trivial⟩ rfl rfl (fun h => Bool.noConfusion h) (fun h => Bool.noConfusion h) rfl <|
      q_int .n (.t rfl) (.c rfl) rfl rfl <|
      q_assign .n (.t rfl) rfl <|
      Lex.nil) ?_
  exact run_ret [] (.cons (.t rfl rfl) .nil) rfl ⟨rfl, trivial⟩ rfl

/-! ### spec_l27DrawState -/
theorem c_spec_l27DrawState (s_ : gl00Src) (hp1 : Lim s_ 500000) : Con Try.prog 47 [.op 0 0 0 0] [(0, some (.box 109 [.sl 1 (s_.code.map (V.int .u8)), .int .i64 s_.at_, .int .u64 s_.seed]))] (.os 100 (m_spec_l27DrawState s_).1.length) ([(100, some (.row 100 2 ((m_spec_l27DrawState s_).1.map gSetting.v))), (0, some (.box 109 [.sl 1 ((m_spec_l27DrawState s_).2.code.map (V.int .u8)), .int .i64 (m_spec_l27DrawState s_).2.at_, .int .u64 (m_spec_l27DrawState s_).2.seed]))]) := by
  refine con_intro (out := fun r : (List gSetting) × gl00Src => ((.os 100 r.1.length : V), ([(100, some (.row 100 2 (r.1.map gSetting.v))), (0, some (.box 109 [.sl 1 (r.2.code.map (V.int .u8)), .int .i64 r.2.at_, .int .u64 r.2.seed]))] : List (Nat × Option O)))) (r := (m_spec_l27DrawState s_)) Try.func47 rfl Try.ntmps47 rfl ?_
  refine run_seq ?_
  refine run_region (q_assign .n (.c rfl) rfl <|
      Lex.nil) ?_
  refine run_seq ?_
  refine run_region (q_bslicem ([([97] : List UInt8), ([98] : List UInt8), ([99] : List UInt8), ([100] : List UInt8), ([101] : List UInt8)] : List (List UInt8)) (f := V.str) (l := 200) .n rfl rfl (.cons (.c rfl) (.cons (.c rfl) (.cons (.c rfl) (.cons (.c rfl) (.cons (.c rfl) .nil))))) rfl si_53 zv_9 rfl rfl rfl <|
      q_assign .n (.t rfl) rfl <|
      Lex.nil) ?_
  refine run_seq ?_
  refine run_region (q_bslicem ([] : List gSetting) (f := gSetting.v) (l := 201) .n rfl rfl .nil rfl si_47 zv_100 rfl rfl rfl <|
      q_assign .n (.t rfl) rfl <|
      Lex.nil) ?_
  refine run_seq ?_
  refine run_seq ?_
  refine run_region (q_assign .n (.c rfl) rfl <|
      Lex.nil) ?_
  refine run_block ?_
  refine run_LOOP (m_spec_l27DrawState_b1 s_) _ _ _ rfl (fun (x1 : (List Int) × Int × Int × (List gSetting) × Int) => 0 ≤ x1.2.2.2.2 ∧ x1.2.2.2.2 ≤ 5 ∧ (x1.2.2.2.1.length : Int) + 0 ≤ x1.2.2.2.2 + (([] : List gSetting).length : Int) ∧ LimA x1.1 x1.2.1 (500000 + 4 * x1.2.2.2.2) ∧ (x1.2.2.2.1.length : Int) ≤ x1.2.2.2.2) (fun x1 => 0 ≤ x1.2.2.2.2 ∧ x1.2.2.2.2 ≤ 5 ∧ (x1.2.2.2.1.length : Int) + 0 ≤ x1.2.2.2.2 + (([] : List gSetting).length : Int) ∧ LimA x1.1 x1.2.1 (500000 + 4 * x1.2.2.2.2) ∧ (x1.2.2.2.1.length : Int) ≤ x1.2.2.2.2 ∧ 5 ≤ x1.2.2.2.2) (fun x1 => (5 - x1.2.2.2.2 : Int).toNat) (fun x1 => ⟨[(0, some (true, .op 0 0 0 0)), (3, some (true, .os 200 ([([97] : List UInt8), ([98] : List UInt8), ([99] : List UInt8), ([100] : List UInt8), ([101] : List UInt8)] : List (List UInt8)).length)), (4, some (true, .os 201 x1.2.2.2.1.length)), (5, some (true, .int .i64 x1.2.2.2.2))], [(0, some (.box 109 [.sl 1 (x1.1.map (V.int .u8)), .int .i64 x1.2.1, .int .u64 x1.2.2.1])), (200, some (.row 9 1 (([([97] : List UInt8), ([98] : List UInt8), ([99] : List UInt8), ([100] : List UInt8), ([101] : List UInt8)] : List (List UInt8)).map V.str))), (201, some (.row 100 2 (x1.2.2.2.1.map gSetting.v)))]⟩) (fun x1 => ⟨[(4, some (true, .os 201 x1.2.2.2.1.length))], [(0, some (.box 109 [.sl 1 (x1.1.map (V.int .u8)), .int .i64 x1.2.1, .int .u64 x1.2.2.1])), (201, some (.row 100 2 (x1.2.2.2.1.map gSetting.v)))]⟩) ⟨by (simp only [List.length_append, List.length_cons, List.length_nil, List.length_replicate, put_len] at * <;> omega), by (simp only [List.length_append, List.length_cons, List.length_nil, List.length_replicate, put_len] at * <;> omega), by (simp only [List.length_append, List.length_cons, List.length_nil, List.length_replicate, put_len] at * <;> omega), by (try dsimp only); (with_reducible (first | apply Lim.mono | apply Lim.out | apply LimA.mono)); (repeat (with_reducible (first | assumption | apply Lim.one | apply Lim.pick | apply Lim.bif1 | apply Lim.text | apply Lim.dstate | apply Lim.chg | apply Lim.from | apply Lim.mk))); omega, by (simp only [List.length_append, List.length_cons, List.length_nil, List.length_replicate, put_len] at * <;> omega)⟩ (by (simp only [List.length_append, List.length_cons, List.length_nil, List.length_replicate, put_len] at * <;> omega)) (sub_of [] ⟨rfl, rfl, rfl, rfl, trivial⟩ ⟨rfl, rfl, rfl, trivial⟩ rfl) ?_ ?_
  · intro x1 i5
    obtain ⟨e6, e7, e8, e9, e10, e11⟩ := i5
    try dsimp only at *
    refine run_seq ?_
    refine run_region (q_move .n (.t rfl) rfl <|
        q_assign .n (.t rfl) rfl <|
        Lex.nil) ?_
    exact run_ret [(100, 201)] (.cons (.t rfl rfl) .nil) (by first | rfl | (simp only [put_len]; rfl)) ⟨rfl, rfl, trivial⟩ rfl
  · intro rec1 k1 hk1 x1 i2
    obtain ⟨e12, e13, e14, e15, e16⟩ := i2
    try dsimp only at *
    refine run_seq ?_
    refine run_seq ?_
    refine run_region (q_move .n (.t rfl) rfl <|
        q_int .n (.t rfl) (.c rfl) rfl rfl <|
        Lex.nil) ?_
    refine run_cond (.t rfl) rfl (fun h3 => ?_) (fun h3 => ?_)
    · try simp only [Bool.and_eq_true, Bool.or_eq_true, Bool.not_eq_true', Bool.and_eq_false_iff, Bool.or_eq_false_iff, Bool.not_eq_false', decide_eq_true_eq, decide_eq_false_iff_not, beq_iff_eq, bne_iff_ne, beq_eq_false_iff_ne, bne_eq_false_iff_eq, Bool.true_and, ne_eq, Decidable.not_not, Int.not_lt, Int.not_le, Nat.not_lt, Nat.not_le, strB_nil, strB_nil', strB_nnil, strB_nnil'] at h3
      refine run_skip ?_
      refine run_seq ?_
      refine run_block ?_
      refine run_seq ?_
      refine run_region (q_move .n (.t rfl) rfl <|
          q_callM (full := false) [(0, 0)] [] .n rfl .f en_62 (.cons (.t rfl) (.cons (.c rfl) .nil)) (.cons (.b (.mutp rfl)) (.cons (.b (.a (.same rfl))) .nil)) (c_spec_l00Src_one (gl00Src.mk x1.1 x1.2.1 x1.2.2.1) 2 (by (try dsimp only); (with_reducible (first | apply Lim.mono | apply Lim.out | apply LimA.mono)); (repeat (with_reducible (first | assumption | apply Lim.one | apply Lim.pick | apply Lim.bif1 | apply Lim.text | apply Lim.dstate | apply Lim.chg | apply Lim.from | apply Lim.mk))); omega)) ⟨rfl, trivial⟩ rfl rfl (fun h => Bool.noConfusion h) (fun h => Bool.noConfusion h) rfl <|
          Lex.nil) ?_
      refine run_cond (.t rfl) rfl (fun h4 => ?_) (fun h4 => ?_)
      · try simp only [Bool.and_eq_true, Bool.or_eq_true, Bool.not_eq_true', Bool.and_eq_false_iff, Bool.or_eq_false_iff, Bool.not_eq_false', decide_eq_true_eq, decide_eq_false_iff_not, beq_iff_eq, bne_iff_ne, beq_eq_false_iff_ne, bne_eq_false_iff_eq, Bool.true_and, ne_eq, Decidable.not_not, Int.not_lt, Int.not_le, Nat.not_lt, Nat.not_le, strB_nil, strB_nil', strB_nnil, strB_nnil'] at h4
        refine run_draw fmo (q_move .n (.t rfl) rfl <|
            q_move .n (.t rfl) rfl <|
            q_move .n (.t rfl) rfl <|
            q_idx_ow .n (.t rfl) (.t rfl) sl_53 (fun _ => by (simp only [List.length_append, List.length_cons, List.length_nil, List.length_replicate, put_len] at * <;> omega)) rfl <|
            q_ld1_row .n (.t rfl) rfl (fun _ => by (simp only [List.length_append, List.length_cons, List.length_nil, List.length_replicate, put_len] at * <;> omega)) rfl rfl rfl ic_9 rfl <|
            q_move .n (.t rfl) rfl <|
            q_callM (full := false) [(0, 0)] [] .n rfl .f en_30 (.cons (.t rfl) (.cons (.c rfl) .nil)) (.cons (.b (.mutp rfl)) (.cons (.b (.a (.same rfl))) .nil)) (c_spec_l00Src_pick (m_spec_l00Src_one (gl00Src.mk x1.1 x1.2.1 x1.2.2.1) 2).2 1001 (by (try dsimp only); (with_reducible (first | apply Lim.mono | apply Lim.out | apply LimA.mono)); (repeat (with_reducible (first | assumption | apply Lim.one | apply Lim.pick | apply Lim.bif1 | apply Lim.text | apply Lim.dstate | apply Lim.chg | apply Lim.from | apply Lim.mk))); omega)) ⟨rfl, trivial⟩ rfl rfl (fun h => Bool.noConfusion h) (fun h => Bool.noConfusion h) rfl <|
            q_build (us := [.str (at' ([([97] : List UInt8), ([98] : List UInt8), ([99] : List UInt8), ([100] : List UInt8), ([101] : List UInt8)] : List (List UInt8)) x1.2.2.2.2), .int .i64 (m_spec_l00Src_pick (m_spec_l00Src_one (gl00Src.mk x1.1 x1.2.1 x1.2.2.1) 2).2 1001).1]) .n (.cons (.t rfl) (.cons (.t rfl) .nil)) zv_100 pl_100 rfl rfl rfl <|
            q_bslicem ([gSetting.mk (at' ([([97] : List UInt8), ([98] : List UInt8), ([99] : List UInt8), ([100] : List UInt8), ([101] : List UInt8)] : List (List UInt8)) x1.2.2.2.2) (m_spec_l00Src_pick (m_spec_l00Src_one (gl00Src.mk x1.1 x1.2.1 x1.2.2.1) 2).2 1001).1] : List gSetting) (f := gSetting.v) (l := 202) .n rfl rfl (.cons (.t rfl) .nil) rfl si_47 zv_100 rfl rfl rfl <|
            q_appm (xs := x1.2.2.2.1) (ys := ([gSetting.mk (at' ([([97] : List UInt8), ([98] : List UInt8), ([99] : List UInt8), ([100] : List UInt8), ([101] : List UInt8)] : List (List UInt8)) x1.2.2.2.2) (m_spec_l00Src_pick (m_spec_l00Src_one (gl00Src.mk x1.1 x1.2.1 x1.2.2.1) 2).2 1001).1] : List gSetting)) (f := gSetting.v) (l := 203) .n rfl (.ow (.t rfl) rfl (take_all (by simp only [len_map, put_len] <;> rfl)) (by simp only [len_map, put_len] <;> rfl)) (.ow (.t rfl) rfl (take_all (by simp only [len_map, put_len] <;> rfl)) (by simp only [len_map, put_len] <;> rfl)) si_47 zv_100 rfl (by (simp only [List.length_append, List.length_cons, List.length_nil, List.length_replicate, put_len] at * <;> omega)) rfl rfl <|
            q_assign .n (.t rfl) rfl <|
            Lex.nil) (by kernel_rfl) ?_
        refine run_endB ?_
        refine run_region (q_move .n (.t rfl) rfl <|
            q_add .n (.t rfl) (.c rfl) (fun _ => by omega) rfl <|
            q_assign .n (.t rfl) rfl <|
            Lex.nil) ?_
        exact run_again ((m_spec_l00Src_pick (m_spec_l00Src_one (gl00Src.mk x1.1 x1.2.1 x1.2.2.1) 2).2 1001).2.code, (m_spec_l00Src_pick (m_spec_l00Src_one (gl00Src.mk x1.1 x1.2.1 x1.2.2.1) 2).2 1001).2.at_, (m_spec_l00Src_pick (m_spec_l00Src_one (gl00Src.mk x1.1 x1.2.1 x1.2.2.1) 2).2 1001).2.seed, x1.2.2.2.1 ++ ([gSetting.mk (at' ([([97] : List UInt8), ([98] : List UInt8), ([99] : List UInt8), ([100] : List UInt8), ([101] : List UInt8)] : List (List UInt8)) x1.2.2.2.2) (m_spec_l00Src_pick (m_spec_l00Src_one (gl00Src.mk x1.1 x1.2.1 x1.2.2.1) 2).2 1001).1] : List gSetting), x1.2.2.2.2 + 1) ⟨by (simp only [List.length_append, List.length_cons, List.length_nil, List.length_replicate, put_len] at * <;> omega), by assumption, by (simp only [List.length_append, List.length_cons, List.length_nil, List.length_replicate, put_len] at * <;> omega), by (try dsimp only); (with_reducible (first | apply Lim.mono | apply Lim.out | apply LimA.mono)); (repeat (with_reducible (first | assumption | apply Lim.one | apply Lim.pick | apply Lim.bif1 | apply Lim.text | apply Lim.dstate | apply Lim.chg | apply Lim.from | apply Lim.mk))); omega, by (simp only [List.length_append, List.length_cons, List.length_nil, List.length_replicate, put_len] at * <;> omega)⟩ (by (simp only [List.length_append, List.length_cons, List.length_nil, List.length_replicate, put_len] at * <;> omega)) (sub_of [(201, 203)] ⟨rfl, rfl, rfl, rfl, trivial⟩ ⟨rfl, rfl, rfl, trivial⟩ rfl)
      · try simp only [Bool.and_eq_true, Bool.or_eq_true, Bool.not_eq_true', Bool.and_eq_false_iff, Bool.or_eq_false_iff, Bool.not_eq_false', decide_eq_true_eq, decide_eq_false_iff_not, beq_iff_eq, bne_iff_ne, beq_eq_false_iff_ne, bne_eq_false_iff_eq, Bool.true_and, ne_eq, Decidable.not_not, Int.not_lt, Int.not_le, Nat.not_lt, Nat.not_le, strB_nil, strB_nil', strB_nnil, strB_nnil'] at h4
        refine run_skip ?_
        refine run_endB ?_
        refine run_region (q_move .n (.t rfl) rfl <|
            q_add .n (.t rfl) (.c rfl) (fun _ => by omega) rfl <|
            q_assign .n (.t rfl) rfl <|
            Lex.nil) ?_
        exact run_again ((m_spec_l00Src_one (gl00Src.mk x1.1 x1.2.1 x1.2.2.1) 2).2.code, (m_spec_l00Src_one (gl00Src.mk x1.1 x1.2.1 x1.2.2.1) 2).2.at_, (m_spec_l00Src_one (gl00Src.mk x1.1 x1.2.1 x1.2.2.1) 2).2.seed, x1.2.2.2.1, x1.2.2.2.2 + 1) ⟨by (simp only [List.length_append, List.length_cons, List.length_nil, List.length_replicate, put_len] at * <;> omega), by assumption, by (simp only [List.length_append, List.length_cons, List.length_nil, List.length_replicate, put_len] at * <;> omega), by (try dsimp only); (with_reducible (first | apply Lim.mono | apply Lim.out | apply LimA.mono)); (repeat (with_reducible (first | assumption | apply Lim.one | apply Lim.pick | apply Lim.bif1 | apply Lim.text | apply Lim.dstate | apply Lim.chg | apply Lim.from | apply Lim.mk))); omega, by (simp only [List.length_append, List.length_cons, List.length_nil, List.length_replicate, put_len] at * <;> omega)⟩ (by (simp only [List.length_append, List.length_cons, List.length_nil, List.length_replicate, put_len] at * <;> omega)) (sub_of [] ⟨rfl, rfl, rfl, rfl, trivial⟩ ⟨rfl, rfl, rfl, trivial⟩ rfl)
    · try simp only [Bool.and_eq_true, Bool.or_eq_true, Bool.not_eq_true', Bool.and_eq_false_iff, Bool.or_eq_false_iff, Bool.not_eq_false', decide_eq_true_eq, decide_eq_false_iff_not, beq_iff_eq, bne_iff_ne, beq_eq_false_iff_ne, bne_eq_false_iff_eq, Bool.true_and, ne_eq, Decidable.not_not, Int.not_lt, Int.not_le, Nat.not_lt, Nat.not_le, strB_nil, strB_nil', strB_nnil, strB_nnil'] at h3
      refine run_exit rfl ?_
      exact run_cont hk1 (x1.1, x1.2.1, x1.2.2.1, x1.2.2.2.1, x1.2.2.2.2) ⟨by omega, by omega, by omega, by (try dsimp only); (with_reducible (first | apply Lim.mono | apply Lim.out | apply LimA.mono)); (repeat (with_reducible (first | assumption | apply Lim.one | apply Lim.pick | apply Lim.bif1 | apply Lim.text | apply Lim.dstate | apply Lim.chg | apply Lim.from | apply Lim.mk))); omega, by omega, by omega⟩ (sub_of [] ⟨rfl, trivial⟩ ⟨rfl, rfl, trivial⟩ rfl)

/-! ### spec_R8State -/
theorem c_spec_R8State (code : List Int) (hp1 : ∀ y ∈ code, 0 ≤ y ∧ y ≤ 255) : Con Try.prog 16 [.sl 1 (code.map (V.int .u8))] [] (.os 100 (m_spec_R8State code).length) ([(100, some (.row 100 2 ((m_spec_R8State code).map gSetting.v)))]) := by
  refine con_intro (out := fun r : (List gSetting) => ((.os 100 r.length : V), ([(100, some (.row 100 2 (r.map gSetting.v)))] : List (Nat × Option O)))) (r := (m_spec_R8State code)) Try.func16 rfl Try.ntmps16 rfl ?_
  have hF := Lim.from hp1
  refine run_fact (t := 0) rfl fun hl => ?_
  have l1 := hl; clear hl; simp only [List.length_map] at l1
  refine run_seq ?_
  refine run_region (q_assign .n (.c rfl) rfl <|
      Lex.nil) ?_
  refine run_seq ?_
  refine run_region (q_move .n (.t rfl) rfl <|
      q_callM (full := false) [] [(100, 200)] .n rfl .f en_26 (.cons (.t rfl) .nil) (.cons (.b (.a (.same rfl))) .nil) (c_spec_l00From code) trivial rfl rfl (fun h => Bool.noConfusion h) (fun h => Bool.noConfusion h) rfl <|
      q_assign .n (.t rfl) rfl <|
      Lex.nil) ?_
  refine run_seq ?_
  refine run_region (q_move .n (.t rfl) rfl <|
      q_callM (full := false) [(0, 200)] [(100, 201)] .n rfl .f en_47 (.cons (.t rfl) .nil) (.cons (.b (.mutp rfl)) .nil) (c_spec_l27DrawState (m_spec_l00From code) (by (try dsimp only); (with_reducible (first | apply Lim.mono | apply Lim.out | apply LimA.mono)); (repeat (with_reducible (first | assumption | apply Lim.one | apply Lim.pick | apply Lim.bif1 | apply Lim.text | apply Lim.dstate | apply Lim.chg | apply Lim.from | apply Lim.mk))); omega)) ⟨rfl, trivial⟩ rfl rfl (fun h => Bool.noConfusion h) (fun h => Bool.noConfusion h) rfl <|
      q_assign .n (.t rfl) rfl <|
      Lex.nil) ?_
  exact run_ret [(100, 201)] (.cons (.t rfl rfl) .nil) (by first | rfl | (simp only [put_len]; rfl)) ⟨rfl, trivial⟩ rfl

/-! ### spec_l27At -/
theorem c_spec_l27At (list : List gSetting) (name : List UInt8) : Con Try.prog 91 [.sl 2 (list.map gSetting.v), .str name] [] (.int .i64 (m_spec_l27At list name)) ([]) := by
  refine con_intro (out := fun r : Int => ((.int .i64 r : V), ([] : List (Nat × Option O)))) (r := (m_spec_l27At list name)) Try.func91 rfl Try.ntmps91 rfl ?_
  refine run_fact (t := 0) rfl fun hl => ?_
  have l1 := hl; clear hl; simp only [List.length_map] at l1
  refine run_seq ?_
  refine run_region (q_assign .n (.c rfl) rfl <|
      Lex.nil) ?_
  refine run_seq ?_
  refine run_seq ?_
  refine run_region (q_assign .n (.c rfl) rfl <|
      Lex.nil) ?_
  refine run_block ?_
  refine run_LOOP (m_spec_l27At_b1 list name) _ _ _ rfl (fun (x1 : Int) => 0 ≤ x1 ∧ x1 ≤ (list.length : Int)) (fun x1 => 0 ≤ x1 ∧ x1 ≤ (list.length : Int) ∧ (list.length : Int) ≤ x1) (fun x1 => ((list.length : Int) - x1 : Int).toNat) (fun x1 => ⟨[(0, some (true, .sl 2 (list.map gSetting.v))), (1, some (true, .str name)), (5, some (true, .int .i64 x1))], []⟩) (fun x1 => ⟨[], []⟩) ⟨by omega, by omega⟩ (by omega) (sub_of [] ⟨rfl, rfl, rfl, trivial⟩ trivial rfl) ?_ ?_
  · intro x1 i6
    obtain ⟨e7, e8, e9⟩ := i6
    try dsimp only at *
    refine run_seq ?_
    refine run_region (q_assign .n (.c rfl) rfl <|
        Lex.nil) ?_
    exact run_ret [] (.cons (.t rfl rfl) .nil) rfl trivial rfl
  · intro rec1 k1 hk2 x1 i3
    obtain ⟨e10, e11⟩ := i3
    try dsimp only at *
    refine run_seq ?_
    refine run_seq ?_
    refine run_region (q_move .n (.t rfl) rfl <|
        q_move .n (.t rfl) rfl <|
        q_len .n (.t rfl) rfl len_map ss_47 rfl <|
        q_int .n (.t rfl) (.t rfl) rfl rfl <|
        Lex.nil) ?_
    refine run_cond (.t rfl) rfl (fun h4 => ?_) (fun h4 => ?_)
    · try simp only [Bool.and_eq_true, Bool.or_eq_true, Bool.not_eq_true', Bool.and_eq_false_iff, Bool.or_eq_false_iff, Bool.not_eq_false', decide_eq_true_eq, decide_eq_false_iff_not, beq_iff_eq, bne_iff_ne, beq_eq_false_iff_ne, bne_eq_false_iff_eq, Bool.true_and, ne_eq, Decidable.not_not, Int.not_lt, Int.not_le, Nat.not_lt, Nat.not_le, strB_nil, strB_nil', strB_nnil, strB_nnil'] at h4
      refine run_skip ?_
      refine run_seq ?_
      refine run_block ?_
      refine run_seq ?_
      refine run_region (q_move .n (.t rfl) rfl <|
          q_move .n (.t rfl) rfl <|
          q_idx_rm .n (.t rfl) (.t rfl) sl_47 (fun _ => by omega) rfl <|
          q_fld_ro .n (.t rfl) fo_100_0 rfl <|
          q_ld1_ro .n (.t rfl) rfl ic_9 rfl <|
          q_move .n (.t rfl) rfl <|
          q_strcmp .n (.t rfl) (.t rfl) rfl rfl <|
          Lex.nil) ?_
      refine run_cond (.t rfl) rfl (fun h5 => ?_) (fun h5 => ?_)
      · try simp only [Bool.and_eq_true, Bool.or_eq_true, Bool.not_eq_true', Bool.and_eq_false_iff, Bool.or_eq_false_iff, Bool.not_eq_false', decide_eq_true_eq, decide_eq_false_iff_not, beq_iff_eq, bne_iff_ne, beq_eq_false_iff_ne, bne_eq_false_iff_eq, Bool.true_and, ne_eq, Decidable.not_not, Int.not_lt, Int.not_le, Nat.not_lt, Nat.not_le, strB_nil, strB_nil', strB_nnil, strB_nnil'] at h5
        refine run_seq ?_
        refine run_region (q_move .n (.t rfl) rfl <|
            q_assign .n (.t rfl) rfl <|
            Lex.nil) ?_
        exact run_ret [] (.cons (.t rfl rfl) .nil) rfl trivial rfl
      · try simp only [Bool.and_eq_true, Bool.or_eq_true, Bool.not_eq_true', Bool.and_eq_false_iff, Bool.or_eq_false_iff, Bool.not_eq_false', decide_eq_true_eq, decide_eq_false_iff_not, beq_iff_eq, bne_iff_ne, beq_eq_false_iff_ne, bne_eq_false_iff_eq, Bool.true_and, ne_eq, Decidable.not_not, Int.not_lt, Int.not_le, Nat.not_lt, Nat.not_le, strB_nil, strB_nil', strB_nnil, strB_nnil'] at h5
        refine run_skip ?_
        refine run_endB ?_
        refine run_region (q_move .n (.t rfl) rfl <|
            q_add .n (.t rfl) (.c rfl) (fun _ => by omega) rfl <|
            q_assign .n (.t rfl) rfl <|
            Lex.nil) ?_
        exact run_again (x1 + 1) ⟨by omega, by omega⟩ (by omega) (sub_of [] ⟨rfl, rfl, rfl, trivial⟩ trivial rfl)
    · try simp only [Bool.and_eq_true, Bool.or_eq_true, Bool.not_eq_true', Bool.and_eq_false_iff, Bool.or_eq_false_iff, Bool.not_eq_false', decide_eq_true_eq, decide_eq_false_iff_not, beq_iff_eq, bne_iff_ne, beq_eq_false_iff_ne, bne_eq_false_iff_eq, Bool.true_and, ne_eq, Decidable.not_not, Int.not_lt, Int.not_le, Nat.not_lt, Nat.not_le, strB_nil, strB_nil', strB_nnil, strB_nnil'] at h4
      refine run_exit rfl ?_
      exact run_cont hk2 x1 ⟨by omega, by omega, by omega⟩ (sub_of [] trivial trivial rfl)

/-! ### spec_l27Set -/
theorem c_spec_l27Set (list : List gSetting) (e : gSetting) (hp1 : list.length ≤ 1000) : Con Try.prog 92 [.sl 2 (list.map gSetting.v), .st [.str e.Name, .int .i64 e.Value]] [] (.os 100 (m_spec_l27Set list e).length) ([(100, some (.row 100 2 ((m_spec_l27Set list e).map gSetting.v)))]) := by
  refine con_intro (out := fun r : (List gSetting) => ((.os 100 r.length : V), ([(100, some (.row 100 2 (r.map gSetting.v)))] : List (Nat × Option O)))) (r := (m_spec_l27Set list e)) Try.func92 rfl Try.ntmps92 rfl ?_
  refine run_fact (t := 0) rfl fun hl => ?_
  have l1 := hl; clear hl; simp only [List.length_map] at l1
  refine run_seq ?_
  refine run_region (q_box (l := 200) .n rfl (.t rfl) rfl rfl rfl rfl <|
      q_assign .n (.c rfl) rfl <|
      Lex.nil) ?_
  refine run_seq ?_
  refine run_region (q_bslicem ([] : List gSetting) (f := gSetting.v) (l := 201) .n rfl rfl .nil rfl si_47 zv_100 rfl rfl rfl <|
      q_assign .n (.t rfl) rfl <|
      Lex.nil) ?_
  refine run_seq ?_
  refine run_region (q_assign .n (.c rfl) rfl <|
      Lex.nil) ?_
  refine run_seq ?_
  refine run_seq ?_
  refine run_region (q_assign .n (.c rfl) rfl <|
      Lex.nil) ?_
  refine run_block ?_
  refine run_LOOP (m_spec_l27Set_b1 list e) _ _ _ rfl (fun (x1 : (List gSetting) × Bool × Int) => 0 ≤ x1.2.2 ∧ x1.2.2 ≤ (list.length : Int) ∧ (x1.1.length : Int) ≤ 2 * x1.2.2) (fun x1 => 0 ≤ x1.2.2 ∧ x1.2.2 ≤ (list.length : Int) ∧ (x1.1.length : Int) ≤ 2 * x1.2.2 ∧ (list.length : Int) ≤ x1.2.2) (fun x1 => ((list.length : Int) - x1.2.2 : Int).toNat) (fun x1 => ⟨[(0, some (true, .sl 2 (list.map gSetting.v))), (3, some (true, .op 200 0 0 0)), (5, some (true, .os 201 x1.1.length)), (6, some (true, .bool x1.2.1)), (7, some (true, .int .i64 x1.2.2))], [(200, some (.box 100 [.str e.Name, .int .i64 e.Value])), (201, some (.row 100 2 (x1.1.map gSetting.v)))]⟩) (fun x1 => ⟨[(3, some (true, .op 200 0 0 0)), (5, some (true, .os 201 x1.1.length)), (6, some (true, .bool x1.2.1))], [(200, some (.box 100 [.str e.Name, .int .i64 e.Value])), (201, some (.row 100 2 (x1.1.map gSetting.v)))]⟩) ⟨by (simp only [List.length_append, List.length_cons, List.length_nil, List.length_replicate, put_len] at * <;> omega), by (simp only [List.length_append, List.length_cons, List.length_nil, List.length_replicate, put_len] at * <;> omega), by (simp only [List.length_append, List.length_cons, List.length_nil, List.length_replicate, put_len] at * <;> omega)⟩ (by (simp only [List.length_append, List.length_cons, List.length_nil, List.length_replicate, put_len] at * <;> omega)) (sub_of [] ⟨rfl, rfl, rfl, rfl, rfl, trivial⟩ ⟨rfl, rfl, trivial⟩ rfl) ?_ ?_
  · intro x1 i12
    obtain ⟨e14, e15, e16, e17⟩ := i12
    try dsimp only at *
    refine run_seq ?_
    refine run_seq ?_
    refine run_region (q_move .n (.t rfl) rfl <|
        q_not .n (.t rfl) rfl <|
        Lex.nil) ?_
    refine run_cond (.t rfl) rfl (fun h13 => ?_) (fun h13 => ?_)
    · try simp only [Bool.and_eq_true, Bool.or_eq_true, Bool.not_eq_true', Bool.and_eq_false_iff, Bool.or_eq_false_iff, Bool.not_eq_false', decide_eq_true_eq, decide_eq_false_iff_not, beq_iff_eq, bne_iff_ne, beq_eq_false_iff_ne, bne_eq_false_iff_eq, Bool.true_and, ne_eq, Decidable.not_not, Int.not_lt, Int.not_le, Nat.not_lt, Nat.not_le, strB_nil, strB_nil', strB_nnil, strB_nnil'] at h13
      refine run_region (q_move .n (.t rfl) rfl <|
          q_ldN_ow .n (.t rfl) rfl (.inr rfl) ag_100 (fun _ => rfl) rfl rfl <|
          q_bslicem ([e] : List gSetting) (f := gSetting.v) (l := 206) .n rfl rfl (.cons (.t rfl) .nil) rfl si_47 zv_100 rfl rfl rfl <|
          q_appm (xs := x1.1) (ys := ([e] : List gSetting)) (f := gSetting.v) (l := 207) .n rfl (.ow (.t rfl) rfl (take_all (by simp only [len_map, put_len] <;> rfl)) (by simp only [len_map, put_len] <;> rfl)) (.ow (.t rfl) rfl (take_all (by simp only [len_map, put_len] <;> rfl)) (by simp only [len_map, put_len] <;> rfl)) si_47 zv_100 rfl (by (simp only [List.length_append, List.length_cons, List.length_nil, List.length_replicate, put_len] at * <;> omega)) rfl rfl <|
          q_assign .n (.t rfl) rfl <|
          Lex.nil) ?_
      refine run_seq ?_
      refine run_region (q_move .n (.t rfl) rfl <|
          q_assign .n (.t rfl) rfl <|
          Lex.nil) ?_
      exact run_ret [(100, 207)] (.cons (.t rfl rfl) .nil) (by first | rfl | (simp only [put_len]; rfl)) ⟨rfl, trivial⟩ rfl
    · try simp only [Bool.and_eq_true, Bool.or_eq_true, Bool.not_eq_true', Bool.and_eq_false_iff, Bool.or_eq_false_iff, Bool.not_eq_false', decide_eq_true_eq, decide_eq_false_iff_not, beq_iff_eq, bne_iff_ne, beq_eq_false_iff_ne, bne_eq_false_iff_eq, Bool.true_and, ne_eq, Decidable.not_not, Int.not_lt, Int.not_le, Nat.not_lt, Nat.not_le, strB_nil, strB_nil', strB_nnil, strB_nnil'] at h13
      refine run_skip ?_
      refine run_seq ?_
      refine run_region (q_move .n (.t rfl) rfl <|
          q_assign .n (.t rfl) rfl <|
          Lex.nil) ?_
      exact run_ret [(100, 201)] (.cons (.t rfl rfl) .nil) (by first | rfl | (simp only [put_len]; rfl)) ⟨rfl, trivial⟩ rfl
  · intro rec1 k1 hk2 x1 i3
    obtain ⟨e18, e19, e20⟩ := i3
    try dsimp only at *
    refine run_seq ?_
    refine run_seq ?_
    refine run_region (q_move .n (.t rfl) rfl <|
        q_move .n (.t rfl) rfl <|
        q_len .n (.t rfl) rfl len_map ss_47 rfl <|
        q_int .n (.t rfl) (.t rfl) rfl rfl <|
        Lex.nil) ?_
    refine run_cond (.t rfl) rfl (fun h4 => ?_) (fun h4 => ?_)
    · try simp only [Bool.and_eq_true, Bool.or_eq_true, Bool.not_eq_true', Bool.and_eq_false_iff, Bool.or_eq_false_iff, Bool.not_eq_false', decide_eq_true_eq, decide_eq_false_iff_not, beq_iff_eq, bne_iff_ne, beq_eq_false_iff_ne, bne_eq_false_iff_eq, Bool.true_and, ne_eq, Decidable.not_not, Int.not_lt, Int.not_le, Nat.not_lt, Nat.not_le, strB_nil, strB_nil', strB_nnil, strB_nnil'] at h4
      refine run_skip ?_
      refine run_seq ?_
      refine run_block ?_
      refine run_seq ?_
      refine run_seq ?_
      refine run_draw fmo (q_move .n (.t rfl) rfl <|
          q_not .n (.t rfl) rfl <|
          q_move .n (.t rfl) rfl <|
          q_move (.t rfl rfl) (.t rfl) rfl <|
          q_move (.t rfl rfl) (.t rfl) rfl <|
          q_idx_rm (.t rfl rfl) (.u rfl id) (.u rfl id) sl_47 (fun hg => by simp only [Bool.and_eq_true, Bool.or_eq_true, Bool.not_eq_true', Bool.and_eq_false_iff, Bool.or_eq_false_iff, Bool.not_eq_false', decide_eq_true_eq, decide_eq_false_iff_not, beq_iff_eq, bne_iff_ne, beq_eq_false_iff_ne, bne_eq_false_iff_eq, Bool.true_and, ne_eq, Decidable.not_not, Int.not_lt, Int.not_le, Nat.not_lt, Nat.not_le, strB_nil, strB_nil', strB_nnil, strB_nnil'] at hg; omega) rfl <|
          q_fld_ro (.t rfl rfl) (.u rfl id) fo_100_0 rfl <|
          q_ld1_ro (.t rfl rfl) (.u rfl id) rfl ic_9 rfl <|
          q_fld_ow (.t rfl rfl) (.t rfl) fo_100_0 rfl <|
          q_ld1_ow (.t rfl rfl) (.u rfl id) rfl (.inr rfl) (fun _ => rfl) rfl ic_9 rfl <|
          q_strcmp (.t rfl rfl) (.u rfl id) (.u rfl id) rfl rfl <|
          q_and .n (.t rfl) (.u rfl id) rfl <|
          Lex.nil) (by kernel_rfl) ?_
      refine run_join _ _ rfl (fun v5 : (List gSetting) × Bool => (v5.1.length : Int) ≤ (x1.1.length : Int) + 1) (fun v5 => ⟨[(0, some (true, .sl 2 (list.map gSetting.v))), (3, some (true, .op 200 0 0 0)), (5, some (true, .os 203 v5.1.length)), (6, some (true, .bool v5.2)), (7, some (true, .int .i64 x1.2.2))], [(200, some (.box 100 [.str e.Name, .int .i64 e.Value])), (203, some (.row 100 2 (v5.1.map gSetting.v)))]⟩) (fun v5 hv10 => ?_) (fun j6 hj7 => ?_)
      · have e11 := hv10
        refine run_seq ?_
        refine run_draw fmo (q_move .n (.t rfl) rfl <|
            q_move .n (.t rfl) rfl <|
            q_idx_rm .n (.t rfl) (.t rfl) sl_47 (fun _ => by omega) rfl <|
            q_fld_ro .n (.t rfl) fo_100_0 rfl <|
            q_ld1_ro .n (.t rfl) rfl ic_9 rfl <|
            q_fld_ow .n (.t rfl) fo_100_0 rfl <|
            q_ld1_ow .n (.t rfl) rfl (.inr rfl) (fun _ => rfl) rfl ic_9 rfl <|
            q_strcmp .n (.t rfl) (.t rfl) rfl rfl <|
            Lex.nil) (by kernel_rfl) ?_
        refine run_cond (.t rfl) rfl (fun h9 => ?_) (fun h9 => ?_)
        · try simp only [Bool.and_eq_true, Bool.or_eq_true, Bool.not_eq_true', Bool.and_eq_false_iff, Bool.or_eq_false_iff, Bool.not_eq_false', decide_eq_true_eq, decide_eq_false_iff_not, beq_iff_eq, bne_iff_ne, beq_eq_false_iff_ne, bne_eq_false_iff_eq, Bool.true_and, ne_eq, Decidable.not_not, Int.not_lt, Int.not_le, Nat.not_lt, Nat.not_le, strB_nil, strB_nil', strB_nnil, strB_nnil'] at h9
          refine run_region (q_move .n (.t rfl) rfl <|
              q_move .n (.t rfl) rfl <|
              q_move .n (.t rfl) rfl <|
              q_idx_rm .n (.t rfl) (.t rfl) sl_47 (fun _ => by omega) rfl <|
              q_ldN_ro .n (.t rfl) ag_100 rfl rfl rfl <|
              q_bslicem ([at' list x1.2.2] : List gSetting) (f := gSetting.v) (l := 204) .n rfl rfl (.cons (.t rfl) .nil) rfl si_47 zv_100 rfl rfl rfl <|
              q_appm (xs := v5.1) (ys := ([at' list x1.2.2] : List gSetting)) (f := gSetting.v) (l := 205) .n rfl (.ow (.t rfl) rfl (take_all (by simp only [len_map, put_len] <;> rfl)) (by simp only [len_map, put_len] <;> rfl)) (.ow (.t rfl) rfl (take_all (by simp only [len_map, put_len] <;> rfl)) (by simp only [len_map, put_len] <;> rfl)) si_47 zv_100 rfl (by (simp only [List.length_append, List.length_cons, List.length_nil, List.length_replicate, put_len] at * <;> omega)) rfl rfl <|
              q_assign .n (.t rfl) rfl <|
              Lex.nil) ?_
          refine run_endB ?_
          refine run_region (q_move .n (.t rfl) rfl <|
              q_add .n (.t rfl) (.c rfl) (fun _ => by omega) rfl <|
              q_assign .n (.t rfl) rfl <|
              Lex.nil) ?_
          exact run_again (v5.1 ++ ([at' list x1.2.2] : List gSetting), v5.2, x1.2.2 + 1) ⟨by (simp only [List.length_append, List.length_cons, List.length_nil, List.length_replicate, put_len] at * <;> omega), by assumption, by (simp only [List.length_append, List.length_cons, List.length_nil, List.length_replicate, put_len] at * <;> omega)⟩ (by (simp only [List.length_append, List.length_cons, List.length_nil, List.length_replicate, put_len] at * <;> omega)) (sub_of [(201, 205)] ⟨rfl, rfl, rfl, rfl, rfl, trivial⟩ ⟨rfl, rfl, trivial⟩ rfl)
        · try simp only [Bool.and_eq_true, Bool.or_eq_true, Bool.not_eq_true', Bool.and_eq_false_iff, Bool.or_eq_false_iff, Bool.not_eq_false', decide_eq_true_eq, decide_eq_false_iff_not, beq_iff_eq, bne_iff_ne, beq_eq_false_iff_ne, bne_eq_false_iff_eq, Bool.true_and, ne_eq, Decidable.not_not, Int.not_lt, Int.not_le, Nat.not_lt, Nat.not_le, strB_nil, strB_nil', strB_nnil, strB_nnil'] at h9
          refine run_skip ?_
          refine run_endB ?_
          refine run_region (q_move .n (.t rfl) rfl <|
              q_add .n (.t rfl) (.c rfl) (fun _ => by omega) rfl <|
              q_assign .n (.t rfl) rfl <|
              Lex.nil) ?_
          exact run_again (v5.1, v5.2, x1.2.2 + 1) ⟨by (simp only [List.length_append, List.length_cons, List.length_nil, List.length_replicate, put_len] at * <;> omega), by assumption, by (simp only [List.length_append, List.length_cons, List.length_nil, List.length_replicate, put_len] at * <;> omega)⟩ (by (simp only [List.length_append, List.length_cons, List.length_nil, List.length_replicate, put_len] at * <;> omega)) (sub_of [(201, 203)] ⟨rfl, rfl, rfl, rfl, rfl, trivial⟩ ⟨rfl, rfl, trivial⟩ rfl)
      · refine run_cond (.t rfl) rfl (fun h8 => ?_) (fun h8 => ?_)
        · try simp only [Bool.and_eq_true, Bool.or_eq_true, Bool.not_eq_true', Bool.and_eq_false_iff, Bool.or_eq_false_iff, Bool.not_eq_false', decide_eq_true_eq, decide_eq_false_iff_not, beq_iff_eq, bne_iff_ne, beq_eq_false_iff_ne, bne_eq_false_iff_eq, Bool.true_and, ne_eq, Decidable.not_not, Int.not_lt, Int.not_le, Nat.not_lt, Nat.not_le, strB_nil, strB_nil', strB_nnil, strB_nnil'] at h8
          refine run_seq ?_
          refine run_region (q_move .n (.t rfl) rfl <|
              q_ldN_ow .n (.t rfl) rfl (.inr rfl) ag_100 (fun _ => rfl) rfl rfl <|
              q_bslicem ([e] : List gSetting) (f := gSetting.v) (l := 202) .n rfl rfl (.cons (.t rfl) .nil) rfl si_47 zv_100 rfl rfl rfl <|
              q_appm (xs := x1.1) (ys := ([e] : List gSetting)) (f := gSetting.v) (l := 203) .n rfl (.ow (.t rfl) rfl (take_all (by simp only [len_map, put_len] <;> rfl)) (by simp only [len_map, put_len] <;> rfl)) (.ow (.t rfl) rfl (take_all (by simp only [len_map, put_len] <;> rfl)) (by simp only [len_map, put_len] <;> rfl)) si_47 zv_100 rfl (by (simp only [List.length_append, List.length_cons, List.length_nil, List.length_replicate, put_len] at * <;> omega)) rfl rfl <|
              q_assign .n (.t rfl) rfl <|
              Lex.nil) ?_
          refine run_region (q_assign .n (.c rfl) rfl <|
              Lex.nil) ?_
          exact run_cont hj7 (x1.1 ++ ([e] : List gSetting), true) (by (simp only [List.length_append, List.length_cons, List.length_nil, List.length_replicate, put_len] at * <;> omega)) (sub_of [] ⟨rfl, rfl, rfl, rfl, rfl, trivial⟩ ⟨rfl, rfl, trivial⟩ rfl)
        · try simp only [Bool.and_eq_true, Bool.or_eq_true, Bool.not_eq_true', Bool.and_eq_false_iff, Bool.or_eq_false_iff, Bool.not_eq_false', decide_eq_true_eq, decide_eq_false_iff_not, beq_iff_eq, bne_iff_ne, beq_eq_false_iff_ne, bne_eq_false_iff_eq, Bool.true_and, ne_eq, Decidable.not_not, Int.not_lt, Int.not_le, Nat.not_lt, Nat.not_le, strB_nil, strB_nil', strB_nnil, strB_nnil'] at h8
          refine run_skip ?_
          exact run_cont hj7 (x1.1, x1.2.1) (by (simp only [List.length_append, List.length_cons, List.length_nil, List.length_replicate, put_len] at * <;> omega)) (sub_of [(203, 201)] ⟨rfl, rfl, rfl, rfl, rfl, trivial⟩ ⟨rfl, rfl, trivial⟩ rfl)
    · try simp only [Bool.and_eq_true, Bool.or_eq_true, Bool.not_eq_true', Bool.and_eq_false_iff, Bool.or_eq_false_iff, Bool.not_eq_false', decide_eq_true_eq, decide_eq_false_iff_not, beq_iff_eq, bne_iff_ne, beq_eq_false_iff_ne, bne_eq_false_iff_eq, Bool.true_and, ne_eq, Decidable.not_not, Int.not_lt, Int.not_le, Nat.not_lt, Nat.not_le, strB_nil, strB_nil', strB_nnil, strB_nnil'] at h4
      refine run_exit rfl ?_
      exact run_cont hk2 (x1.1, x1.2.1, x1.2.2) ⟨by omega, by omega, by omega, by omega⟩ (sub_of [] ⟨rfl, rfl, rfl, trivial⟩ ⟨rfl, rfl, trivial⟩ rfl)

/-! ### spec_l27Changed -/
set_option maxRecDepth 100000 in
set_option maxHeartbeats 4000000 in
theorem c_spec_l27Changed (s_ : gl00Src) (list : List gSetting) (hp1 : Lim s_ 500000) (hp2 : DS list) : Con Try.prog 48 [.op 0 0 0 0, .sl 2 (list.map gSetting.v)] [(0, some (.box 109 [.sl 1 (s_.code.map (V.int .u8)), .int .i64 s_.at_, .int .u64 s_.seed]))] (.os 100 (m_spec_l27Changed s_ list).1.length) ([(100, some (.row 100 2 ((m_spec_l27Changed s_ list).1.map gSetting.v))), (0, some (.box 109 [.sl 1 ((m_spec_l27Changed s_ list).2.code.map (V.int .u8)), .int .i64 (m_spec_l27Changed s_ list).2.at_, .int .u64 (m_spec_l27Changed s_ list).2.seed]))]) := by
  refine con_intro (out := fun r : (List gSetting) × gl00Src => ((.os 100 r.1.length : V), ([(100, some (.row 100 2 (r.1.map gSetting.v))), (0, some (.box 109 [.sl 1 (r.2.code.map (V.int .u8)), .int .i64 r.2.at_, .int .u64 r.2.seed]))] : List (Nat × Option O)))) (r := (m_spec_l27Changed s_ list)) Try.func48 rfl Try.ntmps48 rfl ?_
  have hn0 := hp1.num (k := 4)
  have hn1 := hn0.2 (by omega)
  have hL := hp2.len
  refine run_fact (t := 1) rfl fun hl => ?_
  have l1 := hl; clear hl; simp only [List.length_map] at l1
  refine run_seq ?_
  refine run_region (q_assign .n (.c rfl) rfl <|
      Lex.nil) ?_
  refine run_seq ?_
  refine run_region (q_bslicem ([] : List gSetting) (f := gSetting.v) (l := 200) .n rfl rfl .nil rfl si_47 zv_100 rfl rfl rfl <|
      q_move .n (.t rfl) rfl <|
      q_appm (xs := ([] : List gSetting)) (ys := list) (f := gSetting.v) (l := 201) .n rfl (.ow (.t rfl) rfl (take_all (by simp only [len_map, put_len] <;> rfl)) (by simp only [len_map, put_len] <;> rfl)) (.ro (.t rfl)) si_47 zv_100 rfl (by (simp only [List.length_append, List.length_cons, List.length_nil, List.length_replicate, put_len] at * <;> omega)) rfl rfl <|
      q_assign .n (.t rfl) rfl <|
      Lex.nil) ?_
  refine run_seq ?_
  refine run_region (q_bslicem ([([97] : List UInt8), ([98] : List UInt8), ([99] : List UInt8), ([100] : List UInt8), ([101] : List UInt8), ([102] : List UInt8)] : List (List UInt8)) (f := V.str) (l := 202) .n rfl rfl (.cons (.c rfl) (.cons (.c rfl) (.cons (.c rfl) (.cons (.c rfl) (.cons (.c rfl) (.cons (.c rfl) .nil)))))) rfl si_53 zv_9 rfl rfl rfl <|
      q_assign .n (.t rfl) rfl <|
      Lex.nil) ?_
  refine run_seq ?_
  refine run_seq ?_
  refine run_region (q_move .n (.t rfl) rfl <|
      q_callM (full := false) [(0, 0)] [] .n rfl .f en_30 (.cons (.t rfl) (.cons (.c rfl) .nil)) (.cons (.b (.mutp rfl)) (.cons (.b (.a (.same rfl))) .nil)) (c_spec_l00Src_pick s_ 4 (by (try dsimp only); (with_reducible (first | apply Lim.mono | apply Lim.out | apply LimA.mono)); (repeat (with_reducible (first | assumption | apply Lim.one | apply Lim.pick | apply Lim.bif1 | apply Lim.text | apply Lim.dstate | apply Lim.chg | apply Lim.from | apply Lim.mk))); omega)) ⟨rfl, trivial⟩ rfl rfl (fun h => Bool.noConfusion h) (fun h => Bool.noConfusion h) rfl <|
      q_assign .n (.t rfl) rfl <|
      Lex.nil) ?_
  refine run_block ?_
  refine run_LOOP (m_spec_l27Changed_b1 s_ list) _ _ _ rfl (fun (x1 : (List Int) × Int × Int × (List gSetting) × Int) => x1.2.2.2.2 ≤ (m_spec_l00Src_pick s_ 4).1 ∧ LimA x1.1 x1.2.1 (500020 - 6 * x1.2.2.2.2) ∧ (0 ≤ x1.2.2.2.2 ∧ x1.2.2.2.2 ≤ 3) ∧ DS x1.2.2.2.1) (fun x1 => x1.2.2.2.2 ≤ (m_spec_l00Src_pick s_ 4).1 ∧ LimA x1.1 x1.2.1 (500020 - 6 * x1.2.2.2.2) ∧ (0 ≤ x1.2.2.2.2 ∧ x1.2.2.2.2 ≤ 3) ∧ DS x1.2.2.2.1) (fun x1 => x1.2.2.2.2.toNat) (fun x1 => ⟨[(0, some (true, .op 0 0 0 0)), (5, some (true, .os 201 x1.2.2.2.1.length)), (6, some (true, .os 202 ([([97] : List UInt8), ([98] : List UInt8), ([99] : List UInt8), ([100] : List UInt8), ([101] : List UInt8), ([102] : List UInt8)] : List (List UInt8)).length)), (7, some (true, .int .i64 x1.2.2.2.2))], [(0, some (.box 109 [.sl 1 (x1.1.map (V.int .u8)), .int .i64 x1.2.1, .int .u64 x1.2.2.1])), (201, some (.row 100 2 (x1.2.2.2.1.map gSetting.v))), (202, some (.row 9 1 (([([97] : List UInt8), ([98] : List UInt8), ([99] : List UInt8), ([100] : List UInt8), ([101] : List UInt8), ([102] : List UInt8)] : List (List UInt8)).map V.str)))]⟩) (fun x1 => ⟨[(5, some (true, .os 201 x1.2.2.2.1.length))], [(0, some (.box 109 [.sl 1 (x1.1.map (V.int .u8)), .int .i64 x1.2.1, .int .u64 x1.2.2.1])), (201, some (.row 100 2 (x1.2.2.2.1.map gSetting.v)))]⟩) ⟨by (simp only [List.length_append, List.length_cons, List.length_nil, List.length_replicate, put_len] at * <;> omega), by (try dsimp only); (with_reducible (first | apply Lim.mono | apply Lim.out | apply LimA.mono)); (repeat (with_reducible (first | assumption | apply Lim.one | apply Lim.pick | apply Lim.bif1 | apply Lim.text | apply Lim.dstate | apply Lim.chg | apply Lim.from | apply Lim.mk))); omega, by (simp only [List.length_append, List.length_cons, List.length_nil, List.length_replicate, put_len] at * <;> omega), by assumption⟩ (by (simp only [List.length_append, List.length_cons, List.length_nil, List.length_replicate, put_len] at * <;> omega)) (sub_of [] ⟨rfl, rfl, rfl, rfl, trivial⟩ ⟨rfl, rfl, rfl, trivial⟩ rfl) ?_ ?_
  · intro x1 i6
    obtain ⟨e7, e8, e9, e10⟩ := i6
    try dsimp only at *
    refine run_seq ?_
    refine run_region (q_move .n (.t rfl) rfl <|
        q_assign .n (.t rfl) rfl <|
        Lex.nil) ?_
    exact run_ret [(100, 201)] (.cons (.t rfl rfl) .nil) (by first | rfl | (simp only [put_len]; rfl)) ⟨rfl, rfl, trivial⟩ rfl
  · intro rec1 k1 hk2 x1 i3
    obtain ⟨e11, e12, e13, e14⟩ := i3
    try dsimp only at *
    refine run_seq ?_
    refine run_seq ?_
    refine run_region (q_move .n (.t rfl) rfl <|
        q_int .n (.t rfl) (.c rfl) rfl rfl <|
        Lex.nil) ?_
    refine run_cond (.t rfl) rfl (fun h4 => ?_) (fun h4 => ?_)
    · try simp only [Bool.and_eq_true, Bool.or_eq_true, Bool.not_eq_true', Bool.and_eq_false_iff, Bool.or_eq_false_iff, Bool.not_eq_false', decide_eq_true_eq, decide_eq_false_iff_not, beq_iff_eq, bne_iff_ne, beq_eq_false_iff_ne, bne_eq_false_iff_eq, Bool.true_and, ne_eq, Decidable.not_not, Int.not_lt, Int.not_le, Nat.not_lt, Nat.not_le, strB_nil, strB_nil', strB_nnil, strB_nnil'] at h4
      refine run_skip ?_
      refine run_seq ?_
      refine run_block ?_
      refine run_seq ?_
      refine run_region (q_move .n (.t rfl) rfl <|
          q_move .n (.t rfl) rfl <|
          q_callM (full := false) [(0, 0)] [] .n rfl .f en_30 (.cons (.t rfl) (.cons (.c rfl) .nil)) (.cons (.b (.mutp rfl)) (.cons (.b (.a (.same rfl))) .nil)) (c_spec_l00Src_pick (gl00Src.mk x1.1 x1.2.1 x1.2.2.1) 6 (by (try dsimp only); (with_reducible (first | apply Lim.mono | apply Lim.out | apply LimA.mono)); (repeat (with_reducible (first | assumption | apply Lim.one | apply Lim.pick | apply Lim.bif1 | apply Lim.text | apply Lim.dstate | apply Lim.chg | apply Lim.from | apply Lim.mk))); omega)) ⟨rfl, trivial⟩ rfl rfl (fun h => Bool.noConfusion h) (fun h => Bool.noConfusion h) rfl <|
          q_idx_ow .n (.t rfl) (.t rfl) sl_53 (fun _ => by (exact chg_idx (by assumption))) rfl <|
          q_ld1_row .n (.t rfl) rfl (fun _ => by (exact chg_idx (by assumption))) rfl rfl rfl ic_9 rfl <|
          q_assign .n (.t rfl) rfl <|
          Lex.nil) ?_
      refine run_seq ?_
      refine run_region (q_move .n (.t rfl) rfl <|
          q_move .n (.t rfl) rfl <|
          q_call0 (full := true) .n .f en_91 (.cons (.t rfl) (.cons (.t rfl) .nil)) (.cons (.b (.a (.own rfl rfl rfl (take_all (by simp only [len_map, put_len] <;> rfl)) (by simp only [len_map, put_len] <;> rfl)))) (.cons (.b (.a (.same rfl))) .nil)) (fun hg => c_spec_l27At x1.2.2.2.1 (at' ([([97] : List UInt8), ([98] : List UInt8), ([99] : List UInt8), ([100] : List UInt8), ([101] : List UInt8), ([102] : List UInt8)] : List (List UInt8)) (m_spec_l00Src_pick (gl00Src.mk x1.1 x1.2.1 x1.2.2.1) 6).1)) rfl (fun _ => rfl) rfl <|
          q_assign .n (.t rfl) rfl <|
          Lex.nil) ?_
      refine run_seq ?_
      refine run_region (q_move .n (.t rfl) rfl <|
          q_int .n (.t rfl) (.c rfl) rfl rfl <|
          q_move .n (.t rfl) rfl <|
          q_move (.t rfl rfl) (.t rfl) rfl <|
          q_callGM (full := false) (m0 := 0) (L := 0) (v := .bool (m_spec_l00Src_one (m_spec_l00Src_pick (gl00Src.mk x1.1 x1.2.1 x1.2.2.1) 6).2 2).1) (o' := .box 109 [.sl 1 ((bif (decide (0 ≤ (m_spec_l27At x1.2.2.2.1 (at' ([([97] : List UInt8), ([98] : List UInt8), ([99] : List UInt8), ([100] : List UInt8), ([101] : List UInt8), ([102] : List UInt8)] : List (List UInt8)) (m_spec_l00Src_pick (gl00Src.mk x1.1 x1.2.1 x1.2.2.1) 6).1)))) then (m_spec_l00Src_one (m_spec_l00Src_pick (gl00Src.mk x1.1 x1.2.1 x1.2.2.1) 6).2 2).2 else (m_spec_l00Src_pick (gl00Src.mk x1.1 x1.2.1 x1.2.2.1) 6).2).code.map (V.int .u8)), .int .i64 (bif (decide (0 ≤ (m_spec_l27At x1.2.2.2.1 (at' ([([97] : List UInt8), ([98] : List UInt8), ([99] : List UInt8), ([100] : List UInt8), ([101] : List UInt8), ([102] : List UInt8)] : List (List UInt8)) (m_spec_l00Src_pick (gl00Src.mk x1.1 x1.2.1 x1.2.2.1) 6).1)))) then (m_spec_l00Src_one (m_spec_l00Src_pick (gl00Src.mk x1.1 x1.2.1 x1.2.2.1) 6).2 2).2 else (m_spec_l00Src_pick (gl00Src.mk x1.1 x1.2.1 x1.2.2.1) 6).2).at_, .int .u64 (bif (decide (0 ≤ (m_spec_l27At x1.2.2.2.1 (at' ([([97] : List UInt8), ([98] : List UInt8), ([99] : List UInt8), ([100] : List UInt8), ([101] : List UInt8), ([102] : List UInt8)] : List (List UInt8)) (m_spec_l00Src_pick (gl00Src.mk x1.1 x1.2.1 x1.2.2.1) 6).1)))) then (m_spec_l00Src_one (m_spec_l00Src_pick (gl00Src.mk x1.1 x1.2.1 x1.2.2.1) 6).2 2).2 else (m_spec_l00Src_pick (gl00Src.mk x1.1 x1.2.1 x1.2.2.1) 6).2).seed]) (.t rfl rfl) (fun hg => .f) en_62 (fun hg => (.cons (.u rfl (fun _ => id hg)) (.cons (.c rfl) .nil))) (.cons (.b (.mutp rfl)) (.cons (.b (.a (.same rfl))) .nil)) (fun hg => c_spec_l00Src_one (m_spec_l00Src_pick (gl00Src.mk x1.1 x1.2.1 x1.2.2.1) 6).2 2 (by (try dsimp only); (with_reducible (first | apply Lim.mono | apply Lim.out | apply LimA.mono)); (repeat (with_reducible (first | assumption | apply Lim.one | apply Lim.pick | apply Lim.bif1 | apply Lim.text | apply Lim.dstate | apply Lim.chg | apply Lim.from | apply Lim.mk))); omega)) ⟨rfl, trivial⟩ rfl (fun h => Bool.noConfusion h) (fun h => Bool.noConfusion h) rfl (fun hg => by simp only [Bool.true_and] at hg; rw [hg]; exact ⟨rfl, rfl⟩) (fun hg => by simp only [Bool.true_and] at hg; rw [hg]; rfl) <|
          q_and .n (.t rfl) (.u rfl id) rfl <|
          Lex.nil) ?_
      refine run_cond (.t rfl) rfl (fun h5 => ?_) (fun h5 => ?_)
      · try simp only [Bool.and_eq_true, Bool.or_eq_true, Bool.not_eq_true', Bool.and_eq_false_iff, Bool.or_eq_false_iff, Bool.not_eq_false', decide_eq_true_eq, decide_eq_false_iff_not, beq_iff_eq, bne_iff_ne, beq_eq_false_iff_ne, bne_eq_false_iff_eq, Bool.true_and, ne_eq, Decidable.not_not, Int.not_lt, Int.not_le, Nat.not_lt, Nat.not_le, strB_nil, strB_nil', strB_nnil, strB_nnil'] at h5
        refine run_seq ?_
        refine run_region (q_bslicem ([] : List gSetting) (f := gSetting.v) (l := 203) .n rfl rfl .nil rfl si_47 zv_100 rfl rfl rfl <|
            q_move .n (.t rfl) rfl <|
            q_move .n (.t rfl) rfl <|
            q_cut_owm (xs := x1.2.2.2.1) (b := (m_spec_l27At x1.2.2.2.1 (at' ([([97] : List UInt8), ([98] : List UInt8), ([99] : List UInt8), ([100] : List UInt8), ([101] : List UInt8), ([102] : List UInt8)] : List (List UInt8)) (m_spec_l00Src_pick (gl00Src.mk x1.1 x1.2.1 x1.2.2.1) 6).1))) .n (.t rfl) (.s (.t rfl)) sl_47 (fun _ => by ((have hq := chg_cut (by assumption : DS x1.2.2.2.1) (by assumption); obtain ⟨hq1, hq2, hq3⟩ := hq; first | omega | (rw [hq2]; omega)))) rfl <|
            q_appm (xs := ([] : List gSetting)) (ys := pre' x1.2.2.2.1 (m_spec_l27At x1.2.2.2.1 (at' ([([97] : List UInt8), ([98] : List UInt8), ([99] : List UInt8), ([100] : List UInt8), ([101] : List UInt8), ([102] : List UInt8)] : List (List UInt8)) (m_spec_l00Src_pick (gl00Src.mk x1.1 x1.2.1 x1.2.2.1) 6).1))) (f := gSetting.v) (l := 204) .n rfl (.ow (.t rfl) rfl (take_all (by simp only [len_map, put_len] <;> rfl)) (by simp only [len_map, put_len] <;> rfl)) (.ow (.t rfl) rfl pre_map (by simp only [len_map, pre_len])) si_47 zv_100 rfl (by ((have hq := (chg_drop (by assumption : DS x1.2.2.2.1) (by assumption)).len; first | omega | (simp only [List.length_append] at hq ⊢; omega)))) rfl rfl <|
            q_assign .n (.t rfl) rfl <|
            Lex.nil) ?_
        refine run_region (q_move .n (.t rfl) rfl <|
            q_move .n (.t rfl) rfl <|
            q_move .n (.t rfl) rfl <|
            q_int .n (.t rfl) (.c rfl) rfl rfl <|
            q_cut_oss (x1.2.2.2.1.length : Int) .n (.t rfl) (.s (.t rfl)) .n sl_47 rfl (fun _ => by ((have hq := chg_cut (by assumption : DS x1.2.2.2.1) (by assumption); obtain ⟨hq1, hq2, hq3⟩ := hq; first | omega | (rw [hq2]; omega)))) rfl <|
            q_appm (xs := ([] : List gSetting) ++ (pre' x1.2.2.2.1 (m_spec_l27At x1.2.2.2.1 (at' ([([97] : List UInt8), ([98] : List UInt8), ([99] : List UInt8), ([100] : List UInt8), ([101] : List UInt8), ([102] : List UInt8)] : List (List UInt8)) (m_spec_l00Src_pick (gl00Src.mk x1.1 x1.2.1 x1.2.2.1) 6).1)))) (ys := cut' x1.2.2.2.1 (IntKind.wrap .i64 ((m_spec_l27At x1.2.2.2.1 (at' ([([97] : List UInt8), ([98] : List UInt8), ([99] : List UInt8), ([100] : List UInt8), ([101] : List UInt8), ([102] : List UInt8)] : List (List UInt8)) (m_spec_l00Src_pick (gl00Src.mk x1.1 x1.2.1 x1.2.2.1) 6).1)) + 1)) (x1.2.2.2.1.length : Int)) (f := gSetting.v) (l := 205) .n rfl (.ow (.t rfl) rfl (take_all (by simp only [len_map, put_len] <;> rfl)) (by simp only [len_map, put_len] <;> rfl)) (.ows (.t rfl) rfl cut_map (by simp only [cut', List.length_map, List.length_take, List.length_drop] <;> (omega))) si_47 zv_100 rfl (by ((have hq := (chg_drop (by assumption : DS x1.2.2.2.1) (by assumption)).len; first | omega | (simp only [List.length_append] at hq ⊢; omega)))) rfl rfl <|
            q_assign .n (.t rfl) rfl <|
            Lex.nil) ?_
        refine run_endB ?_
        refine run_region (q_move .n (.t rfl) rfl <|
            q_sub .n (.t rfl) (.c rfl) (fun _ => by omega) rfl <|
            q_assign .n (.t rfl) rfl <|
            Lex.nil) ?_
        exact run_again ((bif (decide (0 ≤ (m_spec_l27At x1.2.2.2.1 (at' ([([97] : List UInt8), ([98] : List UInt8), ([99] : List UInt8), ([100] : List UInt8), ([101] : List UInt8), ([102] : List UInt8)] : List (List UInt8)) (m_spec_l00Src_pick (gl00Src.mk x1.1 x1.2.1 x1.2.2.1) 6).1)))) then (m_spec_l00Src_one (m_spec_l00Src_pick (gl00Src.mk x1.1 x1.2.1 x1.2.2.1) 6).2 2).2 else (m_spec_l00Src_pick (gl00Src.mk x1.1 x1.2.1 x1.2.2.1) 6).2).code, (bif (decide (0 ≤ (m_spec_l27At x1.2.2.2.1 (at' ([([97] : List UInt8), ([98] : List UInt8), ([99] : List UInt8), ([100] : List UInt8), ([101] : List UInt8), ([102] : List UInt8)] : List (List UInt8)) (m_spec_l00Src_pick (gl00Src.mk x1.1 x1.2.1 x1.2.2.1) 6).1)))) then (m_spec_l00Src_one (m_spec_l00Src_pick (gl00Src.mk x1.1 x1.2.1 x1.2.2.1) 6).2 2).2 else (m_spec_l00Src_pick (gl00Src.mk x1.1 x1.2.1 x1.2.2.1) 6).2).at_, (bif (decide (0 ≤ (m_spec_l27At x1.2.2.2.1 (at' ([([97] : List UInt8), ([98] : List UInt8), ([99] : List UInt8), ([100] : List UInt8), ([101] : List UInt8), ([102] : List UInt8)] : List (List UInt8)) (m_spec_l00Src_pick (gl00Src.mk x1.1 x1.2.1 x1.2.2.1) 6).1)))) then (m_spec_l00Src_one (m_spec_l00Src_pick (gl00Src.mk x1.1 x1.2.1 x1.2.2.1) 6).2 2).2 else (m_spec_l00Src_pick (gl00Src.mk x1.1 x1.2.1 x1.2.2.1) 6).2).seed, (([] : List gSetting) ++ (pre' x1.2.2.2.1 (m_spec_l27At x1.2.2.2.1 (at' ([([97] : List UInt8), ([98] : List UInt8), ([99] : List UInt8), ([100] : List UInt8), ([101] : List UInt8), ([102] : List UInt8)] : List (List UInt8)) (m_spec_l00Src_pick (gl00Src.mk x1.1 x1.2.1 x1.2.2.1) 6).1)))) ++ (cut' x1.2.2.2.1 (IntKind.wrap .i64 ((m_spec_l27At x1.2.2.2.1 (at' ([([97] : List UInt8), ([98] : List UInt8), ([99] : List UInt8), ([100] : List UInt8), ([101] : List UInt8), ([102] : List UInt8)] : List (List UInt8)) (m_spec_l00Src_pick (gl00Src.mk x1.1 x1.2.1 x1.2.2.1) 6).1)) + 1)) (x1.2.2.2.1.length : Int)), x1.2.2.2.2 - 1) ⟨by (simp only [List.length_append, List.length_cons, List.length_nil, List.length_replicate, put_len] at * <;> omega), by (try dsimp only); (with_reducible (first | apply Lim.mono | apply Lim.out | apply LimA.mono)); (repeat (with_reducible (first | assumption | apply Lim.one | apply Lim.pick | apply Lim.bif1 | apply Lim.text | apply Lim.dstate | apply Lim.chg | apply Lim.from | apply Lim.mk))); omega, by (simp only [List.length_append, List.length_cons, List.length_nil, List.length_replicate, put_len] at * <;> omega), by (exact chg_drop (by assumption) (by assumption))⟩ (by (simp only [List.length_append, List.length_cons, List.length_nil, List.length_replicate, put_len] at * <;> omega)) (sub_of [(201, 205)] ⟨rfl, rfl, rfl, rfl, trivial⟩ ⟨rfl, rfl, rfl, trivial⟩ rfl)
      · try simp only [Bool.and_eq_true, Bool.or_eq_true, Bool.not_eq_true', Bool.and_eq_false_iff, Bool.or_eq_false_iff, Bool.not_eq_false', decide_eq_true_eq, decide_eq_false_iff_not, beq_iff_eq, bne_iff_ne, beq_eq_false_iff_ne, bne_eq_false_iff_eq, Bool.true_and, ne_eq, Decidable.not_not, Int.not_lt, Int.not_le, Nat.not_lt, Nat.not_le, strB_nil, strB_nil', strB_nnil, strB_nnil'] at h5
        refine run_region (q_move .n (.t rfl) rfl <|
            q_move .n (.t rfl) rfl <|
            q_move .n (.t rfl) rfl <|
            q_callM (full := false) [(0, 0)] [] .n rfl .f en_30 (.cons (.t rfl) (.cons (.c rfl) .nil)) (.cons (.b (.mutp rfl)) (.cons (.b (.a (.same rfl))) .nil)) (c_spec_l00Src_pick (bif (decide (0 ≤ (m_spec_l27At x1.2.2.2.1 (at' ([([97] : List UInt8), ([98] : List UInt8), ([99] : List UInt8), ([100] : List UInt8), ([101] : List UInt8), ([102] : List UInt8)] : List (List UInt8)) (m_spec_l00Src_pick (gl00Src.mk x1.1 x1.2.1 x1.2.2.1) 6).1)))) then (m_spec_l00Src_one (m_spec_l00Src_pick (gl00Src.mk x1.1 x1.2.1 x1.2.2.1) 6).2 2).2 else (m_spec_l00Src_pick (gl00Src.mk x1.1 x1.2.1 x1.2.2.1) 6).2) 1001 (by (try dsimp only); (with_reducible (first | apply Lim.mono | apply Lim.out | apply LimA.mono)); (repeat (with_reducible (first | assumption | apply Lim.one | apply Lim.pick | apply Lim.bif1 | apply Lim.text | apply Lim.dstate | apply Lim.chg | apply Lim.from | apply Lim.mk))); omega)) ⟨rfl, trivial⟩ rfl rfl (fun h => Bool.noConfusion h) (fun h => Bool.noConfusion h) rfl <|
            q_build (us := [.str (at' ([([97] : List UInt8), ([98] : List UInt8), ([99] : List UInt8), ([100] : List UInt8), ([101] : List UInt8), ([102] : List UInt8)] : List (List UInt8)) (m_spec_l00Src_pick (gl00Src.mk x1.1 x1.2.1 x1.2.2.1) 6).1), .int .i64 (m_spec_l00Src_pick (bif (decide (0 ≤ (m_spec_l27At x1.2.2.2.1 (at' ([([97] : List UInt8), ([98] : List UInt8), ([99] : List UInt8), ([100] : List UInt8), ([101] : List UInt8), ([102] : List UInt8)] : List (List UInt8)) (m_spec_l00Src_pick (gl00Src.mk x1.1 x1.2.1 x1.2.2.1) 6).1)))) then (m_spec_l00Src_one (m_spec_l00Src_pick (gl00Src.mk x1.1 x1.2.1 x1.2.2.1) 6).2 2).2 else (m_spec_l00Src_pick (gl00Src.mk x1.1 x1.2.1 x1.2.2.1) 6).2) 1001).1]) .n (.cons (.t rfl) (.cons (.t rfl) .nil)) zv_100 pl_100 rfl rfl rfl <|
            q_callM (full := true) [] [(100, 206)] .n rfl .f en_92 (.cons (.t rfl) (.cons (.t rfl) .nil)) (.cons (.b (.a (.own rfl rfl rfl (take_all (by simp only [len_map, put_len] <;> rfl)) (by simp only [len_map, put_len] <;> rfl)))) (.cons (.sts rfl) .nil)) (c_spec_l27Set x1.2.2.2.1 (gSetting.mk (at' ([([97] : List UInt8), ([98] : List UInt8), ([99] : List UInt8), ([100] : List UInt8), ([101] : List UInt8), ([102] : List UInt8)] : List (List UInt8)) (m_spec_l00Src_pick (gl00Src.mk x1.1 x1.2.1 x1.2.2.1) 6).1) (m_spec_l00Src_pick (bif (decide (0 ≤ (m_spec_l27At x1.2.2.2.1 (at' ([([97] : List UInt8), ([98] : List UInt8), ([99] : List UInt8), ([100] : List UInt8), ([101] : List UInt8), ([102] : List UInt8)] : List (List UInt8)) (m_spec_l00Src_pick (gl00Src.mk x1.1 x1.2.1 x1.2.2.1) 6).1)))) then (m_spec_l00Src_one (m_spec_l00Src_pick (gl00Src.mk x1.1 x1.2.1 x1.2.2.1) 6).2 2).2 else (m_spec_l00Src_pick (gl00Src.mk x1.1 x1.2.1 x1.2.2.1) 6).2) 1001).1) (by ((have hq := DS.len (by assumption : DS x1.2.2.2.1); have hq2 := chg_idx (sd := x1.2.2.1) (by assumption : LimA x1.1 x1.2.1 _); omega)))) trivial rfl rfl (fun _ => rfl) (fun _ => (hr_row (fun _ => rfl) hr_nil)) rfl <|
            q_assign .n (.t rfl) rfl <|
            Lex.nil) ?_
        refine run_endB ?_
        refine run_region (q_move .n (.t rfl) rfl <|
            q_sub .n (.t rfl) (.c rfl) (fun _ => by omega) rfl <|
            q_assign .n (.t rfl) rfl <|
            Lex.nil) ?_
        exact run_again ((m_spec_l00Src_pick (bif (decide (0 ≤ (m_spec_l27At x1.2.2.2.1 (at' ([([97] : List UInt8), ([98] : List UInt8), ([99] : List UInt8), ([100] : List UInt8), ([101] : List UInt8), ([102] : List UInt8)] : List (List UInt8)) (m_spec_l00Src_pick (gl00Src.mk x1.1 x1.2.1 x1.2.2.1) 6).1)))) then (m_spec_l00Src_one (m_spec_l00Src_pick (gl00Src.mk x1.1 x1.2.1 x1.2.2.1) 6).2 2).2 else (m_spec_l00Src_pick (gl00Src.mk x1.1 x1.2.1 x1.2.2.1) 6).2) 1001).2.code, (m_spec_l00Src_pick (bif (decide (0 ≤ (m_spec_l27At x1.2.2.2.1 (at' ([([97] : List UInt8), ([98] : List UInt8), ([99] : List UInt8), ([100] : List UInt8), ([101] : List UInt8), ([102] : List UInt8)] : List (List UInt8)) (m_spec_l00Src_pick (gl00Src.mk x1.1 x1.2.1 x1.2.2.1) 6).1)))) then (m_spec_l00Src_one (m_spec_l00Src_pick (gl00Src.mk x1.1 x1.2.1 x1.2.2.1) 6).2 2).2 else (m_spec_l00Src_pick (gl00Src.mk x1.1 x1.2.1 x1.2.2.1) 6).2) 1001).2.at_, (m_spec_l00Src_pick (bif (decide (0 ≤ (m_spec_l27At x1.2.2.2.1 (at' ([([97] : List UInt8), ([98] : List UInt8), ([99] : List UInt8), ([100] : List UInt8), ([101] : List UInt8), ([102] : List UInt8)] : List (List UInt8)) (m_spec_l00Src_pick (gl00Src.mk x1.1 x1.2.1 x1.2.2.1) 6).1)))) then (m_spec_l00Src_one (m_spec_l00Src_pick (gl00Src.mk x1.1 x1.2.1 x1.2.2.1) 6).2 2).2 else (m_spec_l00Src_pick (gl00Src.mk x1.1 x1.2.1 x1.2.2.1) 6).2) 1001).2.seed, m_spec_l27Set x1.2.2.2.1 (gSetting.mk (at' ([([97] : List UInt8), ([98] : List UInt8), ([99] : List UInt8), ([100] : List UInt8), ([101] : List UInt8), ([102] : List UInt8)] : List (List UInt8)) (m_spec_l00Src_pick (gl00Src.mk x1.1 x1.2.1 x1.2.2.1) 6).1) (m_spec_l00Src_pick (bif (decide (0 ≤ (m_spec_l27At x1.2.2.2.1 (at' ([([97] : List UInt8), ([98] : List UInt8), ([99] : List UInt8), ([100] : List UInt8), ([101] : List UInt8), ([102] : List UInt8)] : List (List UInt8)) (m_spec_l00Src_pick (gl00Src.mk x1.1 x1.2.1 x1.2.2.1) 6).1)))) then (m_spec_l00Src_one (m_spec_l00Src_pick (gl00Src.mk x1.1 x1.2.1 x1.2.2.1) 6).2 2).2 else (m_spec_l00Src_pick (gl00Src.mk x1.1 x1.2.1 x1.2.2.1) 6).2) 1001).1), x1.2.2.2.2 - 1) ⟨by (simp only [List.length_append, List.length_cons, List.length_nil, List.length_replicate, put_len] at * <;> omega), by (try dsimp only); (with_reducible (first | apply Lim.mono | apply Lim.out | apply LimA.mono)); (repeat (with_reducible (first | assumption | apply Lim.one | apply Lim.pick | apply Lim.bif1 | apply Lim.text | apply Lim.dstate | apply Lim.chg | apply Lim.from | apply Lim.mk))); omega, by (simp only [List.length_append, List.length_cons, List.length_nil, List.length_replicate, put_len] at * <;> omega), by (exact chg_set (by assumption) (by assumption))⟩ (by (simp only [List.length_append, List.length_cons, List.length_nil, List.length_replicate, put_len] at * <;> omega)) (sub_of [(201, 206)] ⟨rfl, rfl, rfl, rfl, trivial⟩ ⟨rfl, rfl, rfl, trivial⟩ rfl)
    · try simp only [Bool.and_eq_true, Bool.or_eq_true, Bool.not_eq_true', Bool.and_eq_false_iff, Bool.or_eq_false_iff, Bool.not_eq_false', decide_eq_true_eq, decide_eq_false_iff_not, beq_iff_eq, bne_iff_ne, beq_eq_false_iff_ne, bne_eq_false_iff_eq, Bool.true_and, ne_eq, Decidable.not_not, Int.not_lt, Int.not_le, Nat.not_lt, Nat.not_le, strB_nil, strB_nil', strB_nnil, strB_nnil'] at h4
      refine run_exit rfl ?_
      exact run_cont hk2 (x1.1, x1.2.1, x1.2.2.1, x1.2.2.2.1, x1.2.2.2.2) ⟨by omega, by (try dsimp only); (with_reducible (first | apply Lim.mono | apply Lim.out | apply LimA.mono)); (repeat (with_reducible (first | assumption | apply Lim.one | apply Lim.pick | apply Lim.bif1 | apply Lim.text | apply Lim.dstate | apply Lim.chg | apply Lim.from | apply Lim.mk))); omega, by omega, by omega⟩ (sub_of [] ⟨rfl, trivial⟩ ⟨rfl, rfl, trivial⟩ rfl)

/-! ### spec_R8Changed -/
theorem c_spec_R8Changed (code : List Int) (list : List gSetting) (hp1 : ∀ y ∈ code, 0 ≤ y ∧ y ≤ 255) (hp2 : DS list) : Con Try.prog 17 [.sl 1 (code.map (V.int .u8)), .sl 2 (list.map gSetting.v)] [] (.os 100 (m_spec_R8Changed code list).length) ([(100, some (.row 100 2 ((m_spec_R8Changed code list).map gSetting.v)))]) := by
  refine con_intro (out := fun r : (List gSetting) => ((.os 100 r.length : V), ([(100, some (.row 100 2 (r.map gSetting.v)))] : List (Nat × Option O)))) (r := (m_spec_R8Changed code list)) Try.func17 rfl Try.ntmps17 rfl ?_
  have hF := Lim.from hp1
  refine run_fact (t := 0) rfl fun hl => ?_
  have l1 := hl; clear hl; simp only [List.length_map] at l1
  refine run_fact (t := 1) rfl fun hl => ?_
  have l2 := hl; clear hl; simp only [List.length_map] at l2
  refine run_seq ?_
  refine run_region (q_assign .n (.c rfl) rfl <|
      Lex.nil) ?_
  refine run_seq ?_
  refine run_region (q_move .n (.t rfl) rfl <|
      q_callM (full := false) [] [(100, 200)] .n rfl .f en_26 (.cons (.t rfl) .nil) (.cons (.b (.a (.same rfl))) .nil) (c_spec_l00From code) trivial rfl rfl (fun h => Bool.noConfusion h) (fun h => Bool.noConfusion h) rfl <|
      q_assign .n (.t rfl) rfl <|
      Lex.nil) ?_
  refine run_seq ?_
  refine run_region (q_move .n (.t rfl) rfl <|
      q_move .n (.t rfl) rfl <|
      q_callM (full := false) [(0, 200)] [(100, 201)] .n rfl .f en_48 (.cons (.t rfl) (.cons (.t rfl) .nil)) (.cons (.b (.mutp rfl)) (.cons (.b (.a (.same rfl))) .nil)) (c_spec_l27Changed (m_spec_l00From code) list (by (try dsimp only); (with_reducible (first | apply Lim.mono | apply Lim.out | apply LimA.mono)); (repeat (with_reducible (first | assumption | apply Lim.one | apply Lim.pick | apply Lim.bif1 | apply Lim.text | apply Lim.dstate | apply Lim.chg | apply Lim.from | apply Lim.mk))); omega) (by omega)) ⟨rfl, trivial⟩ rfl rfl (fun h => Bool.noConfusion h) (fun h => Bool.noConfusion h) rfl <|
      q_assign .n (.t rfl) rfl <|
      Lex.nil) ?_
  exact run_ret [(100, 201)] (.cons (.t rfl rfl) .nil) (by first | rfl | (simp only [put_len]; rfl)) ⟨rfl, trivial⟩ rfl

/-! ### impl_within -/
theorem c_impl_within (n_ : Int) (low : Int) (high : Int) : Con Try.prog 45 [.int .i64 n_, .int .i64 low, .int .i64 high] [] (.bool (m_impl_within n_ low high)) ([]) := by
  refine con_intro (out := fun r : Bool => ((.bool r : V), ([] : List (Nat × Option O)))) (r := (m_impl_within n_ low high)) Try.func45 rfl Try.ntmps45 rfl ?_
  refine run_seq ?_
  refine run_region (q_assign .n (.c rfl) rfl <|
      Lex.nil) ?_
  refine run_seq ?_
  refine run_region (q_move .n (.t rfl) rfl <|
      q_move .n (.t rfl) rfl <|
      q_int .n (.t rfl) (.t rfl) rfl rfl <|
      q_move .n (.t rfl) rfl <|
      q_move (.t rfl rfl) (.t rfl) rfl <|
      q_move (.t rfl rfl) (.t rfl) rfl <|
      q_int (.t rfl rfl) (.u rfl id) (.u rfl id) rfl rfl <|
      q_and .n (.t rfl) (.u rfl id) rfl <|
      q_assign .n (.t rfl) rfl <|
      Lex.nil) ?_
  exact run_ret [] (.cons (.t rfl rfl) .nil) rfl trivial rfl

/-! ### impl_onlyNameBytes -/
theorem c_impl_onlyNameBytes (s_ : List UInt8) (hp1 : s_.length ≤ 10) : Con Try.prog 122 [.str s_] [] (.bool (m_impl_onlyNameBytes s_)) ([]) := by
  refine con_intro (out := fun r : Bool => ((.bool r : V), ([] : List (Nat × Option O)))) (r := (m_impl_onlyNameBytes s_)) Try.func122 rfl Try.ntmps122 rfl ?_
  refine run_seq ?_
  refine run_region (q_assign .n (.c rfl) rfl <|
      Lex.nil) ?_
  refine run_seq ?_
  refine run_seq ?_
  refine run_region (q_move .n (.t rfl) rfl <|
      q_len .n (.t rfl) rfl rfl st_9 rfl <|
      q_move .n (.c rfl) rfl <|
      Lex.nil) ?_
  refine run_block ?_
  refine run_LOOP (m_impl_onlyNameBytes_b1 s_) _ _ _ rfl (fun (x1 : Int) => 0 ≤ x1 ∧ x1 ≤ (s_.length : Int)) (fun x1 => 0 ≤ x1 ∧ x1 ≤ (s_.length : Int) ∧ (s_.length : Int) ≤ x1) (fun x1 => ((s_.length : Int) - x1 : Int).toNat) (fun x1 => ⟨[(0, some (true, .str s_)), (6, some (true, .int .i64 (s_.length : Int))), (7, some (true, .int .i64 x1))], []⟩) (fun x1 => ⟨[], []⟩) ⟨by omega, by omega⟩ (by omega) (sub_of [] ⟨rfl, rfl, rfl, trivial⟩ trivial rfl) ?_ ?_
  · intro x1 i5
    obtain ⟨e6, e7, e8⟩ := i5
    try dsimp only at *
    refine run_seq ?_
    refine run_region (q_assign .n (.c rfl) rfl <|
        Lex.nil) ?_
    exact run_ret [] (.cons (.t rfl rfl) .nil) rfl trivial rfl
  · intro rec1 k1 hk1 x1 i2
    obtain ⟨e9, e10⟩ := i2
    try dsimp only at *
    refine run_seq ?_
    refine run_region (q_int .n (.t rfl) (.t rfl) rfl rfl <|
        Lex.nil) ?_
    refine run_seq ?_
    refine run_cond (.t rfl) rfl (fun h3 => ?_) (fun h3 => ?_)
    · try simp only [Bool.and_eq_true, Bool.or_eq_true, Bool.not_eq_true', Bool.and_eq_false_iff, Bool.or_eq_false_iff, Bool.not_eq_false', decide_eq_true_eq, decide_eq_false_iff_not, beq_iff_eq, bne_iff_ne, beq_eq_false_iff_ne, bne_eq_false_iff_eq, Bool.true_and, ne_eq, Decidable.not_not, Int.not_lt, Int.not_le, Nat.not_lt, Nat.not_le, strB_nil, strB_nil', strB_nnil, strB_nnil'] at h3
      refine run_skip ?_
      refine run_seq ?_
      refine run_block ?_
      refine run_seq ?_
      refine run_region (q_move .n (.t rfl) rfl <|
          q_assign .n (.t rfl) rfl <|
          Lex.nil) ?_
      refine run_seq ?_
      refine run_region (q_move .n (.t rfl) rfl <|
          q_move .n (.t rfl) rfl <|
          q_strat .n (.t rfl) (.t rfl) st_9 (fun _ => by omega) rfl <|
          q_assign .n (.t rfl) rfl <|
          Lex.nil) ?_
      refine run_seq ?_
      refine run_region (q_move .n (.t rfl) rfl <|
          q_int .n (.t rfl) (.c rfl) rfl rfl <|
          q_move .n (.t rfl) rfl <|
          q_move (.f rfl rfl) (.t rfl) rfl <|
          q_int (.f rfl rfl) (.u rfl id) (.c rfl) rfl rfl <|
          q_or .n (.t rfl) (.u rfl id) rfl <|
          q_move .n (.t rfl) rfl <|
          q_move (.t rfl rfl) (.t rfl) rfl <|
          q_int (.t rfl rfl) (.u rfl id) (.c rfl) rfl rfl <|
          q_move (.t rfl rfl) (.u rfl id) rfl <|
          q_move (.f rfl rfl) (.t rfl) rfl <|
          q_int (.f rfl rfl) (.u rfl id) (.c rfl) rfl rfl <|
          q_or (.t rfl rfl) (.u rfl id) (.u rfl id) rfl <|
          q_and .n (.t rfl) (.u rfl id) rfl <|
          Lex.nil) ?_
      refine run_cond (.t rfl) rfl (fun h4 => ?_) (fun h4 => ?_)
      · try simp only [Bool.and_eq_true, Bool.or_eq_true, Bool.not_eq_true', Bool.and_eq_false_iff, Bool.or_eq_false_iff, Bool.not_eq_false', decide_eq_true_eq, decide_eq_false_iff_not, beq_iff_eq, bne_iff_ne, beq_eq_false_iff_ne, bne_eq_false_iff_eq, Bool.true_and, ne_eq, Decidable.not_not, Int.not_lt, Int.not_le, Nat.not_lt, Nat.not_le, strB_nil, strB_nil', strB_nnil, strB_nnil'] at h4
        refine run_seq ?_
        refine run_region (q_assign .n (.c rfl) rfl <|
            Lex.nil) ?_
        exact run_ret [] (.cons (.t rfl rfl) .nil) rfl trivial rfl
      · try simp only [Bool.and_eq_true, Bool.or_eq_true, Bool.not_eq_true', Bool.and_eq_false_iff, Bool.or_eq_false_iff, Bool.not_eq_false', decide_eq_true_eq, decide_eq_false_iff_not, beq_iff_eq, bne_iff_ne, beq_eq_false_iff_ne, bne_eq_false_iff_eq, Bool.true_and, ne_eq, Decidable.not_not, Int.not_lt, Int.not_le, Nat.not_lt, Nat.not_le, strB_nil, strB_nil', strB_nnil, strB_nnil'] at h4
        refine run_skip ?_
        refine run_endB ?_
        refine run_region (q_add .n (.t rfl) (.c rfl) (fun _ => by omega) rfl <|
            q_move .n (.t rfl) rfl <|
            Lex.nil) ?_
        exact run_again (x1 + 1) ⟨by omega, by omega⟩ (by omega) (sub_of [] ⟨rfl, rfl, rfl, trivial⟩ trivial rfl)
    · try simp only [Bool.and_eq_true, Bool.or_eq_true, Bool.not_eq_true', Bool.and_eq_false_iff, Bool.or_eq_false_iff, Bool.not_eq_false', decide_eq_true_eq, decide_eq_false_iff_not, beq_iff_eq, bne_iff_ne, beq_eq_false_iff_ne, bne_eq_false_iff_eq, Bool.true_and, ne_eq, Decidable.not_not, Int.not_lt, Int.not_le, Nat.not_lt, Nat.not_le, strB_nil, strB_nil', strB_nnil, strB_nnil'] at h3
      refine run_exit rfl ?_
      exact run_cont hk1 x1 ⟨by omega, by omega, by omega⟩ (sub_of [] trivial trivial rfl)

/-! ### impl_IsName -/
theorem c_impl_IsName (s_ : List UInt8) : Con Try.prog 88 [.str s_] [] (.bool (m_impl_IsName s_)) ([]) := by
  refine con_intro (out := fun r : Bool => ((.bool r : V), ([] : List (Nat × Option O)))) (r := (m_impl_IsName s_)) Try.func88 rfl Try.ntmps88 rfl ?_
  refine run_seq ?_
  refine run_region (q_assign .n (.c rfl) rfl <|
      Lex.nil) ?_
  refine run_seq ?_
  refine run_seq ?_
  refine run_region (q_move .n (.t rfl) rfl <|
      q_len .n (.t rfl) rfl rfl st_9 rfl <|
      q_int .n (.t rfl) (.c rfl) rfl rfl <|
      q_move .n (.t rfl) rfl <|
      q_move (.f rfl rfl) (.t rfl) rfl <|
      q_len (.f rfl rfl) (.u rfl id) rfl rfl st_9 rfl <|
      q_int (.f rfl rfl) (.u rfl id) (.c rfl) rfl rfl <|
      q_or .n (.t rfl) (.u rfl id) rfl <|
      q_move .n (.t rfl) rfl <|
      q_move (.f rfl rfl) (.t rfl) rfl <|
      q_strat (.f rfl rfl) (.u rfl id) (.c rfl) st_9 (fun hg => by simp only [Bool.and_eq_true, Bool.or_eq_true, Bool.not_eq_true', Bool.and_eq_false_iff, Bool.or_eq_false_iff, Bool.not_eq_false', decide_eq_true_eq, decide_eq_false_iff_not, beq_iff_eq, bne_iff_ne, beq_eq_false_iff_ne, bne_eq_false_iff_eq, Bool.true_and, ne_eq, Decidable.not_not, Int.not_lt, Int.not_le, Nat.not_lt, Nat.not_le, strB_nil, strB_nil', strB_nnil, strB_nnil'] at hg; omega) rfl <|
      q_int (.f rfl rfl) (.u rfl id) (.c rfl) rfl rfl <|
      q_or .n (.t rfl) (.u rfl id) rfl <|
      q_move .n (.t rfl) rfl <|
      q_move (.f rfl rfl) (.t rfl) rfl <|
      q_strat (.f rfl rfl) (.u rfl id) (.c rfl) st_9 (fun hg => by simp only [Bool.and_eq_true, Bool.or_eq_true, Bool.not_eq_true', Bool.and_eq_false_iff, Bool.or_eq_false_iff, Bool.not_eq_false', decide_eq_true_eq, decide_eq_false_iff_not, beq_iff_eq, bne_iff_ne, beq_eq_false_iff_ne, bne_eq_false_iff_eq, Bool.true_and, ne_eq, Decidable.not_not, Int.not_lt, Int.not_le, Nat.not_lt, Nat.not_le, strB_nil, strB_nil', strB_nnil, strB_nnil'] at hg; omega) rfl <|
      q_int (.f rfl rfl) (.u rfl id) (.c rfl) rfl rfl <|
      q_or .n (.t rfl) (.u rfl id) rfl <|
      Lex.nil) ?_
  refine run_cond (.t rfl) rfl (fun h1 => ?_) (fun h1 => ?_)
  · try simp only [Bool.and_eq_true, Bool.or_eq_true, Bool.not_eq_true', Bool.and_eq_false_iff, Bool.or_eq_false_iff, Bool.not_eq_false', decide_eq_true_eq, decide_eq_false_iff_not, beq_iff_eq, bne_iff_ne, beq_eq_false_iff_ne, bne_eq_false_iff_eq, Bool.true_and, ne_eq, Decidable.not_not, Int.not_lt, Int.not_le, Nat.not_lt, Nat.not_le, strB_nil, strB_nil', strB_nnil, strB_nnil'] at h1
    refine run_seq ?_
    refine run_region (q_assign .n (.c rfl) rfl <|
        Lex.nil) ?_
    exact run_ret [] (.cons (.t rfl rfl) .nil) rfl trivial rfl
  · try simp only [Bool.and_eq_true, Bool.or_eq_true, Bool.not_eq_true', Bool.and_eq_false_iff, Bool.or_eq_false_iff, Bool.not_eq_false', decide_eq_true_eq, decide_eq_false_iff_not, beq_iff_eq, bne_iff_ne, beq_eq_false_iff_ne, bne_eq_false_iff_eq, Bool.true_and, ne_eq, Decidable.not_not, Int.not_lt, Int.not_le, Nat.not_lt, Nat.not_le, strB_nil, strB_nil', strB_nnil, strB_nnil'] at h1
    refine run_skip ?_
    refine run_seq ?_
    refine run_region (q_move .n (.t rfl) rfl <|
        q_call0 (full := false) .n .f en_122 (.cons (.t rfl) .nil) (.cons (.b (.a (.same rfl))) .nil) (fun hg => c_impl_onlyNameBytes s_ (by omega)) rfl (fun h => Bool.noConfusion h) rfl <|
        q_assign .n (.t rfl) rfl <|
        Lex.nil) ?_
    exact run_ret [] (.cons (.t rfl rfl) .nil) rfl trivial rfl

/-! ### impl_Setting_valid -/
theorem c_impl_Setting_valid (x_ : gSetting) : Con Try.prog 93 [.st [.str x_.Name, .int .i64 x_.Value]] [] (.bool (m_impl_Setting_valid x_)) ([]) := by
  refine con_intro (out := fun r : Bool => ((.bool r : V), ([] : List (Nat × Option O)))) (r := (m_impl_Setting_valid x_)) Try.func93 rfl Try.ntmps93 rfl ?_
  refine run_seq ?_
  refine run_region (q_box (l := 200) .n rfl (.t rfl) rfl rfl rfl rfl <|
      q_assign .n (.c rfl) rfl <|
      Lex.nil) ?_
  refine run_seq ?_
  refine run_region (q_fld_ow .n (.t rfl) fo_100_0 rfl <|
      q_ld1_ow .n (.t rfl) rfl (.inr rfl) (fun _ => rfl) rfl ic_9 rfl <|
      q_call0 (full := false) .n .f en_88 (.cons (.t rfl) .nil) (.cons (.b (.a (.same rfl))) .nil) (fun hg => c_impl_IsName x_.Name) rfl (fun h => Bool.noConfusion h) rfl <|
      q_move .n (.t rfl) rfl <|
      q_fld_ow (.t rfl rfl) (.t rfl) fo_100_1 rfl <|
      q_ld1_ow (.t rfl rfl) (.u rfl id) rfl (.inr rfl) (fun _ => rfl) rfl ic_2 rfl <|
      q_call0 (full := false) (.t rfl rfl) .f en_45 (.cons (.u rfl id) (.cons (.c rfl) (.cons (.c rfl) .nil))) (.cons (.b (.a (.same rfl))) (.cons (.b (.a (.same rfl))) (.cons (.b (.a (.same rfl))) .nil))) (fun hg => c_impl_within x_.Value 0 1000) rfl (fun h => Bool.noConfusion h) rfl <|
      q_and .n (.t rfl) (.u rfl id) rfl <|
      q_assign .n (.t rfl) rfl <|
      Lex.nil) ?_
  exact run_ret [] (.cons (.t rfl rfl) .nil) rfl trivial rfl

/-! ### impl_ValidState -/
theorem c_impl_ValidState (list : List gSetting) : Con Try.prog 49 [.sl 2 (list.map gSetting.v)] [] (.bool (m_impl_ValidState list)) ([]) := by
  refine con_intro (out := fun r : Bool => ((.bool r : V), ([] : List (Nat × Option O)))) (r := (m_impl_ValidState list)) Try.func49 rfl Try.ntmps49 rfl ?_
  refine run_fact (t := 0) rfl fun hl => ?_
  have l1 := hl; clear hl; simp only [List.length_map] at l1
  refine run_seq ?_
  refine run_region (q_assign .n (.c rfl) rfl <|
      Lex.nil) ?_
  refine run_seq ?_
  refine run_seq ?_
  refine run_region (q_move .n (.t rfl) rfl <|
      q_len .n (.t rfl) rfl len_map ss_47 rfl <|
      q_int .n (.t rfl) (.c rfl) rfl rfl <|
      Lex.nil) ?_
  refine run_cond (.t rfl) rfl (fun h2 => ?_) (fun h2 => ?_)
  · try simp only [Bool.and_eq_true, Bool.or_eq_true, Bool.not_eq_true', Bool.and_eq_false_iff, Bool.or_eq_false_iff, Bool.not_eq_false', decide_eq_true_eq, decide_eq_false_iff_not, beq_iff_eq, bne_iff_ne, beq_eq_false_iff_ne, bne_eq_false_iff_eq, Bool.true_and, ne_eq, Decidable.not_not, Int.not_lt, Int.not_le, Nat.not_lt, Nat.not_le, strB_nil, strB_nil', strB_nnil, strB_nnil'] at h2
    refine run_seq ?_
    refine run_region (q_assign .n (.c rfl) rfl <|
        Lex.nil) ?_
    exact run_ret [] (.cons (.t rfl rfl) .nil) rfl trivial rfl
  · try simp only [Bool.and_eq_true, Bool.or_eq_true, Bool.not_eq_true', Bool.and_eq_false_iff, Bool.or_eq_false_iff, Bool.not_eq_false', decide_eq_true_eq, decide_eq_false_iff_not, beq_iff_eq, bne_iff_ne, beq_eq_false_iff_ne, bne_eq_false_iff_eq, Bool.true_and, ne_eq, Decidable.not_not, Int.not_lt, Int.not_le, Nat.not_lt, Nat.not_le, strB_nil, strB_nil', strB_nnil, strB_nnil'] at h2
    refine run_skip ?_
    refine run_seq ?_
    refine run_seq ?_
    refine run_region (q_move .n (.t rfl) rfl <|
        q_len .n (.t rfl) rfl len_map ss_47 rfl <|
        q_move .n (.c rfl) rfl <|
        Lex.nil) ?_
    refine run_block ?_
    refine run_LOOP (m_impl_ValidState_b1 list) _ _ _ rfl (fun (x1 : Int) => 0 ≤ x1 ∧ x1 ≤ (list.length : Int)) (fun x1 => 0 ≤ x1 ∧ x1 ≤ (list.length : Int) ∧ (list.length : Int) ≤ x1) (fun x1 => ((list.length : Int) - x1 : Int).toNat) (fun x1 => ⟨[(0, some (true, .sl 2 (list.map gSetting.v))), (8, some (true, .sl 2 (list.map gSetting.v))), (9, some (true, .int .i64 (list.length : Int))), (10, some (true, .int .i64 x1))], []⟩) (fun x1 => ⟨[], []⟩) ⟨by omega, by omega⟩ (by omega) (sub_of [] ⟨rfl, rfl, rfl, rfl, trivial⟩ trivial rfl) ?_ ?_
    · intro x1 i7
      obtain ⟨e8, e9, e10⟩ := i7
      try dsimp only at *
      refine run_seq ?_
      refine run_region (q_assign .n (.c rfl) rfl <|
          Lex.nil) ?_
      exact run_ret [] (.cons (.t rfl rfl) .nil) rfl trivial rfl
    · intro rec1 k1 hk3 x1 i4
      obtain ⟨e11, e12⟩ := i4
      try dsimp only at *
      refine run_seq ?_
      refine run_region (q_int .n (.t rfl) (.t rfl) rfl rfl <|
          Lex.nil) ?_
      refine run_seq ?_
      refine run_cond (.t rfl) rfl (fun h5 => ?_) (fun h5 => ?_)
      · try simp only [Bool.and_eq_true, Bool.or_eq_true, Bool.not_eq_true', Bool.and_eq_false_iff, Bool.or_eq_false_iff, Bool.not_eq_false', decide_eq_true_eq, decide_eq_false_iff_not, beq_iff_eq, bne_iff_ne, beq_eq_false_iff_ne, bne_eq_false_iff_eq, Bool.true_and, ne_eq, Decidable.not_not, Int.not_lt, Int.not_le, Nat.not_lt, Nat.not_le, strB_nil, strB_nil', strB_nnil, strB_nnil'] at h5
        refine run_skip ?_
        refine run_seq ?_
        refine run_block ?_
        refine run_seq ?_
        refine run_region (q_move .n (.t rfl) rfl <|
            q_idx_rm .n (.t rfl) (.t rfl) sl_47 (fun _ => by omega) rfl <|
            q_ldN_ro .n (.t rfl) ag_100 rfl rfl rfl <|
            q_alloc (l := 200) .n rfl zv_100 rfl rfl <|
            q_assign .n (.t rfl) rfl <|
            q_st_boxm [.str (at' list x1).Name, .int .i64 (at' list x1).Value] .n rfl (.t rfl) (.t rfl) rfl ts_100 rfl rfl <|
            Lex.nil) ?_
        refine run_seq ?_
        refine run_draw fmo (q_ldN_ow .n (.t rfl) rfl (.inr rfl) ag_100 (fun _ => rfl) rfl rfl <|
            q_call0 (full := false) .n .f en_93 (.cons (.t rfl) .nil) (.cons (.sts rfl) .nil) (fun hg => c_impl_Setting_valid (at' list x1)) rfl (fun h => Bool.noConfusion h) rfl <|
            q_not .n (.t rfl) rfl <|
            q_move .n (.t rfl) rfl <|
            q_move (.f rfl rfl) (.t rfl) rfl <|
            q_int (.f rfl rfl) (.u rfl id) (.c rfl) rfl rfl <|
            q_move (.f rfl rfl) (.u rfl id) rfl <|
            q_fld_ow (.t rfl rfl) (.t rfl) fo_100_0 rfl <|
            q_ld1_ow (.t rfl rfl) (.u rfl id) rfl (.inr rfl) (fun _ => rfl) rfl ic_9 rfl <|
            q_move (.t rfl rfl) (.t rfl) rfl <|
            q_move (.t rfl rfl) (.t rfl) rfl <|
            q_sub (.t rfl rfl) (.u rfl id) (.c rfl) (fun hg => by simp only [Bool.and_eq_true, Bool.or_eq_true, Bool.not_eq_true', Bool.and_eq_false_iff, Bool.or_eq_false_iff, Bool.not_eq_false', decide_eq_true_eq, decide_eq_false_iff_not, beq_iff_eq, bne_iff_ne, beq_eq_false_iff_ne, bne_eq_false_iff_eq, Bool.true_and, ne_eq, Decidable.not_not, Int.not_lt, Int.not_le, Nat.not_lt, Nat.not_le, strB_nil, strB_nil', strB_nnil, strB_nnil'] at hg; omega) rfl <|
            q_idx_rm (.t rfl rfl) (.u rfl id) (.u rfl id) sl_47 (fun hg => by simp only [Bool.and_eq_true, Bool.or_eq_true, Bool.not_eq_true', Bool.and_eq_false_iff, Bool.or_eq_false_iff, Bool.not_eq_false', decide_eq_true_eq, decide_eq_false_iff_not, beq_iff_eq, bne_iff_ne, beq_eq_false_iff_ne, bne_eq_false_iff_eq, Bool.true_and, ne_eq, Decidable.not_not, Int.not_lt, Int.not_le, Nat.not_lt, Nat.not_le, strB_nil, strB_nil', strB_nnil, strB_nnil'] at hg; omega) rfl <|
            q_fld_ro (.t rfl rfl) (.u rfl id) fo_100_0 rfl <|
            q_ld1_ro (.t rfl rfl) (.u rfl id) rfl ic_9 rfl <|
            q_strcmp (.t rfl rfl) (.u rfl id) (.u rfl id) rfl rfl <|
            q_and (.f rfl rfl) (.u rfl id) (.u rfl id) rfl <|
            q_or .n (.t rfl) (.u rfl id) rfl <|
            Lex.nil) (by kernel_rfl) ?_
        refine run_cond (.t rfl) rfl (fun h6 => ?_) (fun h6 => ?_)
        · try simp only [Bool.and_eq_true, Bool.or_eq_true, Bool.not_eq_true', Bool.and_eq_false_iff, Bool.or_eq_false_iff, Bool.not_eq_false', decide_eq_true_eq, decide_eq_false_iff_not, beq_iff_eq, bne_iff_ne, beq_eq_false_iff_ne, bne_eq_false_iff_eq, Bool.true_and, ne_eq, Decidable.not_not, Int.not_lt, Int.not_le, Nat.not_lt, Nat.not_le, strB_nil, strB_nil', strB_nnil, strB_nnil'] at h6
          refine run_seq ?_
          refine run_region (q_assign .n (.c rfl) rfl <|
              Lex.nil) ?_
          exact run_ret [] (.cons (.t rfl rfl) .nil) rfl trivial rfl
        · try simp only [Bool.and_eq_true, Bool.or_eq_true, Bool.not_eq_true', Bool.and_eq_false_iff, Bool.or_eq_false_iff, Bool.not_eq_false', decide_eq_true_eq, decide_eq_false_iff_not, beq_iff_eq, bne_iff_ne, beq_eq_false_iff_ne, bne_eq_false_iff_eq, Bool.true_and, ne_eq, Decidable.not_not, Int.not_lt, Int.not_le, Nat.not_lt, Nat.not_le, strB_nil, strB_nil', strB_nnil, strB_nnil'] at h6
          refine run_skip ?_
          refine run_endB ?_
          refine run_region (q_add .n (.t rfl) (.c rfl) (fun _ => by omega) rfl <|
              q_move .n (.t rfl) rfl <|
              Lex.nil) ?_
          exact run_again (x1 + 1) ⟨by omega, by omega⟩ (by omega) (sub_of [] ⟨rfl, rfl, rfl, rfl, trivial⟩ trivial rfl)
      · try simp only [Bool.and_eq_true, Bool.or_eq_true, Bool.not_eq_true', Bool.and_eq_false_iff, Bool.or_eq_false_iff, Bool.not_eq_false', decide_eq_true_eq, decide_eq_false_iff_not, beq_iff_eq, bne_iff_ne, beq_eq_false_iff_ne, bne_eq_false_iff_eq, Bool.true_and, ne_eq, Decidable.not_not, Int.not_lt, Int.not_le, Nat.not_lt, Nat.not_le, strB_nil, strB_nil', strB_nnil, strB_nnil'] at h5
        refine run_exit rfl ?_
        exact run_cont hk3 x1 ⟨by omega, by omega, by omega⟩ (sub_of [] trivial trivial rfl)

/-! ### slices_Sort_string -/


/-! ### slices_Compact_string -/


/-! ### impl_namesOf -/
theorem c_impl_namesOf (states : List (List gSetting)) (hp1 : states.length ≤ 3) (hp2 : ∀ y ∈ states, y.length ≤ 24) : Con Try.prog 51 [.sl 1 (states.map (slv 2 gSetting.v))] [] (.os 100 (m_impl_namesOf states).length) ([(100, some (.row 9 1 ((m_impl_namesOf states).map V.str)))]) := by
  refine con_intro (out := fun r : (List (List UInt8)) => ((.os 100 r.length : V), ([(100, some (.row 9 1 (r.map V.str)))] : List (Nat × Option O)))) (r := (m_impl_namesOf states)) Try.func51 rfl Try.ntmps51 rfl ?_
  refine run_fact (t := 0) rfl fun hl => ?_
  have l1 := hl; clear hl; simp only [List.length_map] at l1
  refine run_seq ?_
  refine run_region (q_assign .n (.c rfl) rfl <|
      Lex.nil) ?_
  refine run_seq ?_
  refine run_region (q_assign .n (.c rfl) rfl <|
      Lex.nil) ?_
  refine run_seq ?_
  refine run_seq ?_
  refine run_region (q_move .n (.t rfl) rfl <|
      q_len .n (.t rfl) rfl len_map ss_136 rfl <|
      q_move .n (.c rfl) rfl <|
      Lex.nil) ?_
  refine run_block ?_
  refine run_sub (sub_adopt (t := 3) (l := 200) (el := 9) (sz := 1) rfl rfl) ?_
  refine run_LOOP (m_impl_namesOf_b1 states) _ _ _ rfl (fun (x1 : (List (List UInt8)) × Int) => 0 ≤ x1.2 ∧ x1.2 ≤ (states.length : Int) ∧ (x1.1.length : Int) ≤ 24 * x1.2) (fun x1 => 0 ≤ x1.2 ∧ x1.2 ≤ (states.length : Int) ∧ (x1.1.length : Int) ≤ 24 * x1.2 ∧ (states.length : Int) ≤ x1.2) (fun x1 => ((states.length : Int) - x1.2 : Int).toNat) (fun x1 => ⟨[(3, some (true, .os 200 x1.1.length)), (8, some (true, .sl 1 (states.map (slv 2 gSetting.v)))), (9, some (true, .int .i64 (states.length : Int))), (10, some (true, .int .i64 x1.2))], [(200, some (.row 9 1 (x1.1.map V.str)))]⟩) (fun x1 => ⟨[(3, some (true, .os 200 x1.1.length))], [(200, some (.row 9 1 (x1.1.map V.str)))]⟩) ⟨by omega, by omega, by (simp only [List.length_append, List.length_cons, List.length_nil, List.length_replicate, put_len] at * <;> omega)⟩ (by omega) (sub_of [] ⟨rfl, rfl, rfl, rfl, trivial⟩ ⟨rfl, trivial⟩ rfl) ?_ ?_
  · intro x1 i19
    obtain ⟨e20, e21, e22, e23⟩ := i19
    try dsimp only at *
    refine run_seq ?_
    refine run_region (q_move .n (.t rfl) rfl <|
        q_callM (full := false) [(0, 200)] [] .n rfl .f en_96 (.cons (.t rfl) .nil) (.cons (.b (muts_len rfl (by first | rfl | exact sortS_len _))) .nil) (c_slices_Sort_string x1.1 (by omega)) ⟨rfl, trivial⟩ rfl rfl (fun h => Bool.noConfusion h) (fun h => Bool.noConfusion h) rfl <|
        Lex.nil) ?_
    refine run_seq ?_
    refine run_region (q_move .n (.t rfl) rfl <|
        q_callM (full := false) [(0, 200)] [] .n rfl .f en_97 (.cons (.t rfl) .nil) (.cons (.b (muts_len rfl (by first | rfl | exact sortS_len _))) .nil) (c_slices_Compact_string (m_slices_Sort_string x1.1) (by ((have hq := sortS_len x1.1; omega)))) ⟨rfl, trivial⟩ rfl rfl (fun h => Bool.noConfusion h) (fun h => Bool.noConfusion h) rfl <|
        q_assign .n (.t rfl) rfl <|
        Lex.nil) ?_
    exact run_ret [(100, 200)] (.cons (.t rfl rfl) .nil) (by first | rfl | (simp only [put_len]; rfl)) ⟨rfl, trivial⟩ rfl
  · intro rec1 k1 hk2 x1 i3
    obtain ⟨e24, e25, e26⟩ := i3
    try dsimp only at *
    refine run_seq ?_
    refine run_region (q_int .n (.t rfl) (.t rfl) rfl rfl <|
        Lex.nil) ?_
    refine run_seq ?_
    refine run_cond (.t rfl) rfl (fun h4 => ?_) (fun h4 => ?_)
    · try simp only [Bool.and_eq_true, Bool.or_eq_true, Bool.not_eq_true', Bool.and_eq_false_iff, Bool.or_eq_false_iff, Bool.not_eq_false', decide_eq_true_eq, decide_eq_false_iff_not, beq_iff_eq, bne_iff_ne, beq_eq_false_iff_ne, bne_eq_false_iff_eq, Bool.true_and, ne_eq, Decidable.not_not, Int.not_lt, Int.not_le, Nat.not_lt, Nat.not_le, strB_nil, strB_nil', strB_nnil, strB_nnil'] at h4
      refine run_skip ?_
      refine run_seq ?_
      refine run_block ?_
      refine run_seq ?_
      refine run_region (q_idx_rm .n (.t rfl) (.t rfl) sl_136 (fun _ => by omega) rfl <|
          q_ld1_ro .n (.t rfl) rfl ic_47 rfl <|
          q_assign .n (.t rfl) rfl <|
          Lex.nil) ?_
      refine run_seq ?_
      refine run_region (q_move .n (.t rfl) rfl <|
          q_len .n (.t rfl) rfl len_map ss_47 rfl <|
          q_move .n (.c rfl) rfl <|
          Lex.nil) ?_
      refine run_fact (t := 14) rfl fun hl => ?_
      have l5 := hl; clear hl; simp only [List.length_map] at l5
      refine run_block ?_
      refine run_LOOP (m_impl_namesOf_b2 states rec1 k1 x1) _ _ _ rfl (fun (x2 : (List (List UInt8)) × Int) => 0 ≤ x2.2 ∧ x2.2 ≤ ((at' states x1.2).length : Int) ∧ (x2.1.length : Int) + 0 ≤ x2.2 + (x1.1.length : Int) ∧ (x2.1.length : Int) ≤ 24 * x1.2 + x2.2) (fun x2 => 0 ≤ x2.2 ∧ x2.2 ≤ ((at' states x1.2).length : Int) ∧ (x2.1.length : Int) + 0 ≤ x2.2 + (x1.1.length : Int) ∧ (x2.1.length : Int) ≤ 24 * x1.2 + x2.2 ∧ ((at' states x1.2).length : Int) ≤ x2.2) (fun x2 => (((at' states x1.2).length : Int) - x2.2 : Int).toNat) (fun x2 => ⟨[(3, some (true, .os 200 x2.1.length)), (8, some (true, .sl 1 (states.map (slv 2 gSetting.v)))), (9, some (true, .int .i64 (states.length : Int))), (10, some (true, .int .i64 x1.2)), (14, some (true, .sl 2 ((at' states x1.2).map gSetting.v))), (15, some (true, .int .i64 ((at' states x1.2).length : Int))), (16, some (true, .int .i64 x2.2))], [(200, some (.row 9 1 (x2.1.map V.str)))]⟩) (fun x2 => ⟨[(3, some (true, .os 200 x2.1.length)), (8, some (true, .sl 1 (states.map (slv 2 gSetting.v)))), (9, some (true, .int .i64 (states.length : Int))), (10, some (true, .int .i64 x1.2))], [(200, some (.row 9 1 (x2.1.map V.str)))]⟩) ⟨by omega, by omega, by (simp only [List.length_append, List.length_cons, List.length_nil, List.length_replicate, put_len] at * <;> omega), by (simp only [List.length_append, List.length_cons, List.length_nil, List.length_replicate, put_len] at * <;> omega)⟩ (by omega) (sub_of [] ⟨rfl, rfl, rfl, rfl, rfl, rfl, rfl, trivial⟩ ⟨rfl, trivial⟩ rfl) ?_ ?_
      · intro x2 i9
        obtain ⟨e10, e11, e12, e13, e14⟩ := i9
        try dsimp only at *
        refine run_endB ?_
        refine run_region (q_add .n (.t rfl) (.c rfl) (fun _ => by omega) rfl <|
            q_move .n (.t rfl) rfl <|
            Lex.nil) ?_
        exact run_again (x2.1, x1.2 + 1) ⟨by omega, by omega, by ((have hq := at_all (i := x1.2) hp2 (by omega); first | omega | (dsimp only at *; omega)))⟩ (by omega) (sub_of [] ⟨rfl, rfl, rfl, rfl, trivial⟩ ⟨rfl, trivial⟩ rfl)
      · intro rec2 k2 hk6 x2 i7
        obtain ⟨e15, e16, e17, e18⟩ := i7
        try dsimp only at *
        refine run_seq ?_
        refine run_region (q_int .n (.t rfl) (.t rfl) rfl rfl <|
            Lex.nil) ?_
        refine run_seq ?_
        refine run_cond (.t rfl) rfl (fun h8 => ?_) (fun h8 => ?_)
        · try simp only [Bool.and_eq_true, Bool.or_eq_true, Bool.not_eq_true', Bool.and_eq_false_iff, Bool.or_eq_false_iff, Bool.not_eq_false', decide_eq_true_eq, decide_eq_false_iff_not, beq_iff_eq, bne_iff_ne, beq_eq_false_iff_ne, bne_eq_false_iff_eq, Bool.true_and, ne_eq, Decidable.not_not, Int.not_lt, Int.not_le, Nat.not_lt, Nat.not_le, strB_nil, strB_nil', strB_nnil, strB_nnil'] at h8
          refine run_skip ?_
          refine run_seq ?_
          refine run_block ?_
          refine run_seq ?_
          refine run_region (q_idx_rm .n (.t rfl) (.t rfl) sl_47 (fun _ => by omega) rfl <|
              q_ldN_ro .n (.t rfl) ag_100 rfl rfl rfl <|
              q_alloc (l := 201) .n rfl zv_100 rfl rfl <|
              q_st_boxm [.str (at' (at' states x1.2) x2.2).Name, .int .i64 (at' (at' states x1.2) x2.2).Value] .n rfl (.t rfl) (.t rfl) rfl ts_100 rfl rfl <|
              Lex.nil) ?_
          refine run_region (q_move .n (.t rfl) rfl <|
              q_fld_ow .n (.t rfl) fo_100_0 rfl <|
              q_ld1_ow .n (.t rfl) rfl (.inr rfl) (fun _ => rfl) rfl ic_9 rfl <|
              q_bslicem ([(at' (at' states x1.2) x2.2).Name] : List (List UInt8)) (f := V.str) (l := 202) .n rfl rfl (.cons (.t rfl) .nil) rfl si_53 zv_9 rfl rfl rfl <|
              q_appm (xs := x2.1) (ys := ([(at' (at' states x1.2) x2.2).Name] : List (List UInt8))) (f := V.str) (l := 203) .n rfl (.ow (.t rfl) rfl (take_all (by simp only [len_map, put_len] <;> rfl)) (by simp only [len_map, put_len] <;> rfl)) (.ow (.t rfl) rfl (take_all (by simp only [len_map, put_len] <;> rfl)) (by simp only [len_map, put_len] <;> rfl)) si_53 zv_9 rfl (by ((have hq := at_all (i := x1.2) hp2 (by omega); simp only [List.length_append, List.length_cons, List.length_nil]; omega))) rfl rfl <|
              q_assign .n (.t rfl) rfl <|
              Lex.nil) ?_
          refine run_endB ?_
          refine run_region (q_add .n (.t rfl) (.c rfl) (fun _ => by omega) rfl <|
              q_move .n (.t rfl) rfl <|
              Lex.nil) ?_
          exact run_again (x2.1 ++ ([(at' (at' states x1.2) x2.2).Name] : List (List UInt8)), x2.2 + 1) ⟨by omega, by omega, by (simp only [List.length_append, List.length_cons, List.length_nil, List.length_replicate, put_len] at * <;> omega), by (simp only [List.length_append, List.length_cons, List.length_nil, List.length_replicate, put_len] at * <;> omega)⟩ (by omega) (sub_of [(200, 203)] ⟨rfl, rfl, rfl, rfl, rfl, rfl, rfl, trivial⟩ ⟨rfl, trivial⟩ rfl)
        · try simp only [Bool.and_eq_true, Bool.or_eq_true, Bool.not_eq_true', Bool.and_eq_false_iff, Bool.or_eq_false_iff, Bool.not_eq_false', decide_eq_true_eq, decide_eq_false_iff_not, beq_iff_eq, bne_iff_ne, beq_eq_false_iff_ne, bne_eq_false_iff_eq, Bool.true_and, ne_eq, Decidable.not_not, Int.not_lt, Int.not_le, Nat.not_lt, Nat.not_le, strB_nil, strB_nil', strB_nnil, strB_nnil'] at h8
          refine run_exit rfl ?_
          exact run_cont hk6 (x2.1, x2.2) ⟨by omega, by omega, by omega, by omega, by omega⟩ (sub_of [] ⟨rfl, rfl, rfl, rfl, trivial⟩ ⟨rfl, trivial⟩ rfl)
    · try simp only [Bool.and_eq_true, Bool.or_eq_true, Bool.not_eq_true', Bool.and_eq_false_iff, Bool.or_eq_false_iff, Bool.not_eq_false', decide_eq_true_eq, decide_eq_false_iff_not, beq_iff_eq, bne_iff_ne, beq_eq_false_iff_ne, bne_eq_false_iff_eq, Bool.true_and, ne_eq, Decidable.not_not, Int.not_lt, Int.not_le, Nat.not_lt, Nat.not_le, strB_nil, strB_nil', strB_nnil, strB_nnil'] at h4
      refine run_exit rfl ?_
      exact run_cont hk2 (x1.1, x1.2) ⟨by omega, by omega, by omega, by omega⟩ (sub_of [] ⟨rfl, trivial⟩ ⟨rfl, trivial⟩ rfl)

/-! ### slices_IndexFunc_string -/
theorem c_slices_IndexFunc_string (s_ : List (List UInt8)) (f : List UInt8 → Bool) (F_f : FuncId) (C_f : List V) (he_f : entB Try.prog F_f = true) (hr_f : C_f.all V.ro = true) (hc_f : ∀ (a0 : List UInt8), Con Try.prog F_f ([.str a0] ++ C_f) [] (.bool (f a0)) []) : Con Try.prog 123 [.sl 1 (s_.map V.str), .clo F_f C_f] [] (.int .i64 (m_slices_IndexFunc_string s_ f)) ([]) := by
  refine con_intro (out := fun r : Int => ((.int .i64 r : V), ([] : List (Nat × Option O)))) (r := (m_slices_IndexFunc_string s_ f)) Try.func123 rfl Try.ntmps123 rfl ?_
  refine run_fact (t := 0) rfl fun hl => ?_
  have l1 := hl; clear hl; simp only [List.length_map] at l1
  refine run_seq ?_
  refine run_region (q_assign .n (.c rfl) rfl <|
      Lex.nil) ?_
  refine run_seq ?_
  refine run_seq ?_
  refine run_region (q_move .n (.t rfl) rfl <|
      q_len .n (.t rfl) rfl len_map ss_53 rfl <|
      q_move .n (.c rfl) rfl <|
      Lex.nil) ?_
  refine run_block ?_
  refine run_LOOP (m_slices_IndexFunc_string_b1 s_ f) _ _ _ rfl (fun (x1 : Int) => 0 ≤ x1 ∧ x1 ≤ (s_.length : Int)) (fun x1 => 0 ≤ x1 ∧ x1 ≤ (s_.length : Int) ∧ (s_.length : Int) ≤ x1) (fun x1 => ((s_.length : Int) - x1 : Int).toNat) (fun x1 => ⟨[(0, some (true, .sl 1 (s_.map V.str))), (1, some (true, .clo F_f C_f)), (7, some (true, .int .i64 (s_.length : Int))), (8, some (true, .int .i64 x1))], []⟩) (fun x1 => ⟨[], []⟩) ⟨by omega, by omega⟩ (by omega) (sub_of [] ⟨rfl, clo_ren hr_f rfl, rfl, rfl, trivial⟩ trivial rfl) ?_ ?_
  · intro x1 i6
    obtain ⟨e7, e8, e9⟩ := i6
    try dsimp only at *
    refine run_seq ?_
    refine run_region (q_assign .n (.c rfl) rfl <|
        Lex.nil) ?_
    exact run_ret [] (.cons (.t rfl rfl) .nil) rfl trivial rfl
  · intro rec1 k1 hk2 x1 i3
    obtain ⟨e10, e11⟩ := i3
    try dsimp only at *
    refine run_seq ?_
    refine run_region (q_int .n (.t rfl) (.t rfl) rfl rfl <|
        Lex.nil) ?_
    refine run_seq ?_
    refine run_cond (.t rfl) rfl (fun h4 => ?_) (fun h4 => ?_)
    · try simp only [Bool.and_eq_true, Bool.or_eq_true, Bool.not_eq_true', Bool.and_eq_false_iff, Bool.or_eq_false_iff, Bool.not_eq_false', decide_eq_true_eq, decide_eq_false_iff_not, beq_iff_eq, bne_iff_ne, beq_eq_false_iff_ne, bne_eq_false_iff_eq, Bool.true_and, ne_eq, Decidable.not_not, Int.not_lt, Int.not_le, Nat.not_lt, Nat.not_le, strB_nil, strB_nil', strB_nnil, strB_nnil'] at h4
      refine run_skip ?_
      refine run_seq ?_
      refine run_block ?_
      refine run_seq ?_
      refine run_region (q_move .n (.t rfl) rfl <|
          q_assign .n (.t rfl) rfl <|
          Lex.nil) ?_
      refine run_seq ?_
      refine run_region (q_move .n (.t rfl) rfl <|
          q_move .n (.t rfl) rfl <|
          q_move .n (.t rfl) rfl <|
          q_idx_rm .n (.t rfl) (.t rfl) sl_53 (fun _ => by omega) rfl <|
          q_ld1_ro .n (.t rfl) rfl ic_9 rfl <|
          q_call0 (full := false) .n (.c (.t rfl)) he_f (.cons (.t rfl) .nil) (passes_app hr_f (.cons (.b (.a (.same rfl))) .nil)) (fun hg => hc_f (at' s_ x1)) rfl (fun h => Bool.noConfusion h) rfl <|
          Lex.nil) ?_
      refine run_cond (.t rfl) rfl (fun h5 => ?_) (fun h5 => ?_)
      · try simp only [Bool.and_eq_true, Bool.or_eq_true, Bool.not_eq_true', Bool.and_eq_false_iff, Bool.or_eq_false_iff, Bool.not_eq_false', decide_eq_true_eq, decide_eq_false_iff_not, beq_iff_eq, bne_iff_ne, beq_eq_false_iff_ne, bne_eq_false_iff_eq, Bool.true_and, ne_eq, Decidable.not_not, Int.not_lt, Int.not_le, Nat.not_lt, Nat.not_le, strB_nil, strB_nil', strB_nnil, strB_nnil'] at h5
        refine run_seq ?_
        refine run_region (q_move .n (.t rfl) rfl <|
            q_assign .n (.t rfl) rfl <|
            Lex.nil) ?_
        exact run_ret [] (.cons (.t rfl rfl) .nil) rfl trivial rfl
      · try simp only [Bool.and_eq_true, Bool.or_eq_true, Bool.not_eq_true', Bool.and_eq_false_iff, Bool.or_eq_false_iff, Bool.not_eq_false', decide_eq_true_eq, decide_eq_false_iff_not, beq_iff_eq, bne_iff_ne, beq_eq_false_iff_ne, bne_eq_false_iff_eq, Bool.true_and, ne_eq, Decidable.not_not, Int.not_lt, Int.not_le, Nat.not_lt, Nat.not_le, strB_nil, strB_nil', strB_nnil, strB_nnil'] at h5
        refine run_skip ?_
        refine run_endB ?_
        refine run_region (q_add .n (.t rfl) (.c rfl) (fun _ => by omega) rfl <|
            q_move .n (.t rfl) rfl <|
            Lex.nil) ?_
        exact run_again (x1 + 1) ⟨by omega, by omega⟩ (by omega) (sub_of [] ⟨rfl, clo_ren hr_f rfl, rfl, rfl, trivial⟩ trivial rfl)
    · try simp only [Bool.and_eq_true, Bool.or_eq_true, Bool.not_eq_true', Bool.and_eq_false_iff, Bool.or_eq_false_iff, Bool.not_eq_false', decide_eq_true_eq, decide_eq_false_iff_not, beq_iff_eq, bne_iff_ne, beq_eq_false_iff_ne, bne_eq_false_iff_eq, Bool.true_and, ne_eq, Decidable.not_not, Int.not_lt, Int.not_le, Nat.not_lt, Nat.not_le, strB_nil, strB_nil', strB_nnil, strB_nnil'] at h4
      refine run_exit rfl ?_
      exact run_cont hk2 x1 ⟨by omega, by omega, by omega⟩ (sub_of [] trivial trivial rfl)

/-! ### slices_DeleteFunc_string -/
set_option maxRecDepth 100000 in
set_option maxHeartbeats 4000000 in
theorem c_slices_DeleteFunc_string (s_ : List (List UInt8)) (del : List UInt8 → Bool) (F_del : FuncId) (C_del : List V) (he_del : entB Try.prog F_del = true) (hr_del : C_del.all V.ro = true) (hc_del : ∀ (a0 : List UInt8), Con Try.prog F_del ([.str a0] ++ C_del) [] (.bool (del a0)) []) (hp1 : s_.length ≤ 1000000) : Con Try.prog 94 [.os 0 s_.length, .clo F_del C_del] [(0, some (.row 9 1 (s_.map V.str)))] (.os 0 (m_slices_DeleteFunc_string s_ del).1.length) ([(0, some (.row 9 1 ((m_slices_DeleteFunc_string s_ del).1.map V.str)))]) := by
  refine con_intro (out := fun r : (List (List UInt8)) × (List (List UInt8)) => ((.os 0 r.1.length : V), ([(0, some (.row 9 1 (r.1.map V.str)))] : List (Nat × Option O)))) (r := (m_slices_DeleteFunc_string s_ del)) Try.func94 rfl Try.ntmps94 rfl ?_
  refine run_factH (l := 0) rfl fun hl => ?_
  have l1 := hl; clear hl; simp only [List.length_map] at l1
  refine run_seq ?_
  refine run_region (q_assign .n (.c rfl) rfl <|
      Lex.nil) ?_
  refine run_seq ?_
  refine run_region (q_move .n (.t rfl) rfl <|
      q_move .n (.t rfl) rfl <|
      q_call0 (full := true) .n .f en_123 (.cons (.t rfl) (.cons (.t rfl) .nil)) (.cons (.b (.a (.own rfl rfl rfl (take_all (by simp only [len_map, put_len] <;> rfl)) (by simp only [len_map, put_len] <;> rfl)))) (.cons (.clo (passBs_ro hr_del)) .nil)) (fun hg => c_slices_IndexFunc_string s_ del F_del C_del he_del hr_del hc_del) rfl (fun _ => rfl) rfl <|
      q_assign .n (.t rfl) rfl <|
      Lex.nil) ?_
  refine run_seq ?_
  refine run_seq ?_
  refine run_region (q_move .n (.t rfl) rfl <|
      q_int .n (.t rfl) (.c rfl) rfl rfl <|
      Lex.nil) ?_
  refine run_cond (.t rfl) rfl (fun h2 => ?_) (fun h2 => ?_)
  · try simp only [Bool.and_eq_true, Bool.or_eq_true, Bool.not_eq_true', Bool.and_eq_false_iff, Bool.or_eq_false_iff, Bool.not_eq_false', decide_eq_true_eq, decide_eq_false_iff_not, beq_iff_eq, bne_iff_ne, beq_eq_false_iff_ne, bne_eq_false_iff_eq, Bool.true_and, ne_eq, Decidable.not_not, Int.not_lt, Int.not_le, Nat.not_lt, Nat.not_le, strB_nil, strB_nil', strB_nnil, strB_nnil'] at h2
    refine run_seq ?_
    refine run_region (q_move .n (.t rfl) rfl <|
        q_assign .n (.t rfl) rfl <|
        Lex.nil) ?_
    exact run_ret [] (.cons (.t rfl rfl) .nil) (by first | rfl | (simp only [put_len, pre_len2, cpy_tail_len]; rfl)) ⟨rfl, trivial⟩ rfl
  · try simp only [Bool.and_eq_true, Bool.or_eq_true, Bool.not_eq_true', Bool.and_eq_false_iff, Bool.or_eq_false_iff, Bool.not_eq_false', decide_eq_true_eq, decide_eq_false_iff_not, beq_iff_eq, bne_iff_ne, beq_eq_false_iff_ne, bne_eq_false_iff_eq, Bool.true_and, ne_eq, Decidable.not_not, Int.not_lt, Int.not_le, Nat.not_lt, Nat.not_le, strB_nil, strB_nil', strB_nnil, strB_nnil'] at h2
    refine run_skip ?_
    refine run_seq ?_
    refine run_seq ?_
    refine run_region (q_move .n (.t rfl) rfl <|
        q_int .n (.t rfl) (.c rfl) rfl rfl <|
        q_assign .n (.t rfl) rfl <|
        Lex.nil) ?_
    refine run_block ?_
    refine run_LOOP (m_slices_DeleteFunc_string_b1 s_ del) _ _ _ rfl (fun (x1 : (List (List UInt8)) × Int × Int) => IntKind.wrap .i64 ((m_slices_IndexFunc_string s_ del) + 1) ≤ x1.2.2 ∧ x1.1.length = s_.length ∧ (0 ≤ x1.2.1 ∧ x1.2.1 < x1.2.2 ∧ x1.2.2 ≤ s_.length) ∧ x1.1.length = s_.length) (fun x1 => IntKind.wrap .i64 ((m_slices_IndexFunc_string s_ del) + 1) ≤ x1.2.2 ∧ x1.1.length = s_.length ∧ (0 ≤ x1.2.1 ∧ x1.2.1 < x1.2.2 ∧ x1.2.2 ≤ s_.length) ∧ x1.1.length = s_.length) (fun x1 => ((s_.length : Int) - x1.2.2 : Int).toNat) (fun x1 => ⟨[(0, some (true, .os 0 x1.1.length)), (1, some (true, .clo F_del C_del)), (5, some (true, .int .i64 x1.2.1)), (6, some (true, .int .i64 x1.2.2))], [(0, some (.row 9 1 (x1.1.map V.str)))]⟩) (fun x1 => ⟨[(0, some (true, .os 0 x1.1.length)), (5, some (true, .int .i64 x1.2.1))], [(0, some (.row 9 1 (x1.1.map V.str)))]⟩) ⟨by (simp only [List.length_append, List.length_cons, List.length_nil, List.length_replicate, put_len] at * <;> omega), by (simp only [List.length_append, List.length_cons, List.length_nil, List.length_replicate, put_len] at * <;> omega), by ((have hq := idx_rng s_ del; have hw := wr64 (n := m_slices_IndexFunc_string s_ del + 1) (by omega); first | omega | (rw [hw]; omega) | (dsimp only; omega) | (dsimp only; rw [hw]; omega) | (refine ⟨?_, ?_, ?_⟩ <;> dsimp only <;> first | omega | (rw [hw]; omega)))), by (simp only [List.length_append, List.length_cons, List.length_nil, List.length_replicate, put_len] at * <;> omega)⟩ (by (simp only [List.length_append, List.length_cons, List.length_nil, List.length_replicate, put_len] at * <;> omega)) (sub_of [] ⟨rfl, clo_ren hr_del rfl, rfl, rfl, trivial⟩ ⟨rfl, trivial⟩ rfl) ?_ ?_
    · intro x1 i7
      obtain ⟨e8, e9, e10, e11⟩ := i7
      try dsimp only at *
      refine run_seq ?_
      refine run_region (q_move .n (.t rfl) rfl <|
          q_move .n (.t rfl) rfl <|
          q_cut_oss (x1.1.length : Int) .n (.t rfl) (.s (.t rfl)) .n sl_53 rfl (fun _ => by omega) rfl <|
          q_clearm (f := V.str) (off := x1.2.1.toNat) (m := ((x1.1.length : Int).toNat - x1.2.1.toNat)) (([] : List UInt8) : List UInt8) .n rfl (.t rfl) rfl (by omega) sl_53 zv_9 rfl <|
          Lex.nil) ?_
      refine run_seq ?_
      refine run_region (q_move .n (.t rfl) rfl <|
          q_move .n (.t rfl) rfl <|
          q_cut_owm (xs := (cpy x1.1 (x1.2.1.toNat) (List.replicate ((x1.1.length : Int).toNat - x1.2.1.toNat) (([] : List UInt8) : List UInt8)))) (b := x1.2.1) .n (.t rfl) (.s (.t rfl)) sl_53 (fun _ => by ((have hc := cpy_tail_len (xs := x1.1) (o := x1.2.1.toNat) (z := ([] : List UInt8)); omega))) rfl <|
          q_assign .n (.t rfl) rfl <|
          Lex.nil) ?_
      refine run_shrink (f := V.str) (xs := cpy x1.1 (x1.2.1.toNat) (List.replicate ((x1.1.length : Int).toNat - x1.2.1.toNat) (([] : List UInt8) : List UInt8))) (l := 0) x1.2.1 rfl ?_
      exact run_ret [] (.cons (.t rfl rfl) .nil) (by first | rfl | (simp only [put_len, pre_len2, cpy_tail_len]; rfl)) ⟨rfl, trivial⟩ rfl
    · intro rec1 k1 hk3 x1 i4
      obtain ⟨e12, e13, e14, e15⟩ := i4
      try dsimp only at *
      refine run_seq ?_
      refine run_seq ?_
      refine run_region (q_move .n (.t rfl) rfl <|
          q_move .n (.t rfl) rfl <|
          q_len .n (.t rfl) rfl rfl ss_53 rfl <|
          q_int .n (.t rfl) (.t rfl) rfl rfl <|
          Lex.nil) ?_
      refine run_cond (.t rfl) rfl (fun h5 => ?_) (fun h5 => ?_)
      · try simp only [Bool.and_eq_true, Bool.or_eq_true, Bool.not_eq_true', Bool.and_eq_false_iff, Bool.or_eq_false_iff, Bool.not_eq_false', decide_eq_true_eq, decide_eq_false_iff_not, beq_iff_eq, bne_iff_ne, beq_eq_false_iff_ne, bne_eq_false_iff_eq, Bool.true_and, ne_eq, Decidable.not_not, Int.not_lt, Int.not_le, Nat.not_lt, Nat.not_le, strB_nil, strB_nil', strB_nnil, strB_nnil'] at h5
        refine run_skip ?_
        refine run_seq ?_
        refine run_block ?_
        refine run_seq ?_
        refine run_region (q_move .n (.t rfl) rfl <|
            q_move .n (.t rfl) rfl <|
            q_idx_ow .n (.t rfl) (.t rfl) sl_53 (fun _ => by omega) rfl <|
            q_ld1_row .n (.t rfl) rfl (fun _ => by omega) rfl rfl rfl ic_9 rfl <|
            q_assign .n (.t rfl) rfl <|
            Lex.nil) ?_
        refine run_seq ?_
        refine run_region (q_move .n (.t rfl) rfl <|
            q_move .n (.t rfl) rfl <|
            q_call0 (full := false) .n (.c (.t rfl)) he_del (.cons (.t rfl) .nil) (passes_app hr_del (.cons (.b (.a (.same rfl))) .nil)) (fun hg => hc_del (at' x1.1 x1.2.2)) rfl (fun h => Bool.noConfusion h) rfl <|
            q_not .n (.t rfl) rfl <|
            Lex.nil) ?_
        refine run_cond (.t rfl) rfl (fun h6 => ?_) (fun h6 => ?_)
        · try simp only [Bool.and_eq_true, Bool.or_eq_true, Bool.not_eq_true', Bool.and_eq_false_iff, Bool.or_eq_false_iff, Bool.not_eq_false', decide_eq_true_eq, decide_eq_false_iff_not, beq_iff_eq, bne_iff_ne, beq_eq_false_iff_ne, bne_eq_false_iff_eq, Bool.true_and, ne_eq, Decidable.not_not, Int.not_lt, Int.not_le, Nat.not_lt, Nat.not_le, strB_nil, strB_nil', strB_nnil, strB_nnil'] at h6
          refine run_seq ?_
          refine run_region (q_move .n (.t rfl) rfl <|
              q_move .n (.t rfl) rfl <|
              q_move .n (.t rfl) rfl <|
              q_idx_ow .n (.t rfl) (.t rfl) sl_53 (fun _ => by omega) rfl <|
              q_st_rowm (at' x1.1 x1.2.2) .n rfl (.t rfl) (.t rfl) rfl ts_9 (by omega) rfl rfl <|
              Lex.nil) ?_
          refine run_region (q_move .n (.t rfl) rfl <|
              q_int .n (.t rfl) (.c rfl) rfl rfl <|
              q_assign .n (.t rfl) rfl <|
              Lex.nil) ?_
          refine run_endB ?_
          refine run_region (q_move .n (.t rfl) rfl <|
              q_add .n (.t rfl) (.c rfl) (fun _ => by omega) rfl <|
              q_assign .n (.t rfl) rfl <|
              Lex.nil) ?_
          exact run_again (put' x1.1 x1.2.1 (at' x1.1 x1.2.2), IntKind.wrap .i64 (x1.2.1 + 1), x1.2.2 + 1) ⟨by (simp only [List.length_append, List.length_cons, List.length_nil, List.length_replicate, put_len] at * <;> omega), by (simp only [List.length_append, List.length_cons, List.length_nil, List.length_replicate, put_len] at * <;> omega), by ((have hw2 := wr64 (n := x1.2.1 + 1) (by omega); have hl2 := put_len (xs := x1.1) (i := x1.2.1) (x := at' x1.1 x1.2.2); dsimp only; first | omega | (rw [hw2]; omega) | (refine ⟨?_, ?_, ?_⟩ <;> first | omega | (rw [hw2]; omega)) | (refine ⟨?_, ?_⟩ <;> first | omega | (rw [hw2]; omega)))), by (simp only [List.length_append, List.length_cons, List.length_nil, List.length_replicate, put_len] at * <;> omega)⟩ (by (simp only [List.length_append, List.length_cons, List.length_nil, List.length_replicate, put_len] at * <;> omega)) (sub_of [] ⟨os_len rfl (by first | (simp only [put_len]; done) | (first | omega | assumption | (simp only [List.length_append, List.length_cons, List.length_nil, List.length_replicate, put_len] at * <;> omega) | (((have hq := idx_rng s_ del; have hw := wr64 (n := m_slices_IndexFunc_string s_ del + 1) (by omega); first | omega | (rw [hw]; omega) | (dsimp only; omega) | (dsimp only; rw [hw]; omega) | (refine ⟨?_, ?_, ?_⟩ <;> dsimp only <;> first | omega | (rw [hw]; omega)))); done) | (((have hw2 := wr64 (n := x1.2.1 + 1) (by omega); have hl2 := put_len (xs := x1.1) (i := x1.2.1) (x := at' x1.1 x1.2.2); dsimp only; first | omega | (rw [hw2]; omega) | (refine ⟨?_, ?_, ?_⟩ <;> first | omega | (rw [hw2]; omega)) | (refine ⟨?_, ?_⟩ <;> first | omega | (rw [hw2]; omega)))); done) | (((have hc := cpy_tail_len (xs := x1.1) (o := x1.2.1.toNat) (z := ([] : List UInt8)); omega)); done))), clo_ren hr_del rfl, rfl, rfl, trivial⟩ ⟨rfl, trivial⟩ rfl)
        · try simp only [Bool.and_eq_true, Bool.or_eq_true, Bool.not_eq_true', Bool.and_eq_false_iff, Bool.or_eq_false_iff, Bool.not_eq_false', decide_eq_true_eq, decide_eq_false_iff_not, beq_iff_eq, bne_iff_ne, beq_eq_false_iff_ne, bne_eq_false_iff_eq, Bool.true_and, ne_eq, Decidable.not_not, Int.not_lt, Int.not_le, Nat.not_lt, Nat.not_le, strB_nil, strB_nil', strB_nnil, strB_nnil'] at h6
          refine run_skip ?_
          refine run_endB ?_
          refine run_region (q_move .n (.t rfl) rfl <|
              q_add .n (.t rfl) (.c rfl) (fun _ => by omega) rfl <|
              q_assign .n (.t rfl) rfl <|
              Lex.nil) ?_
          exact run_again (x1.1, x1.2.1, x1.2.2 + 1) ⟨by (simp only [List.length_append, List.length_cons, List.length_nil, List.length_replicate, put_len] at * <;> omega), by omega, by (simp only [List.length_append, List.length_cons, List.length_nil, List.length_replicate, put_len] at * <;> omega), by omega⟩ (by (simp only [List.length_append, List.length_cons, List.length_nil, List.length_replicate, put_len] at * <;> omega)) (sub_of [] ⟨rfl, clo_ren hr_del rfl, rfl, rfl, trivial⟩ ⟨rfl, trivial⟩ rfl)
      · try simp only [Bool.and_eq_true, Bool.or_eq_true, Bool.not_eq_true', Bool.and_eq_false_iff, Bool.or_eq_false_iff, Bool.not_eq_false', decide_eq_true_eq, decide_eq_false_iff_not, beq_iff_eq, bne_iff_ne, beq_eq_false_iff_ne, bne_eq_false_iff_eq, Bool.true_and, ne_eq, Decidable.not_not, Int.not_lt, Int.not_le, Nat.not_lt, Nat.not_le, strB_nil, strB_nil', strB_nnil, strB_nnil'] at h5
        refine run_exit rfl ?_
        exact run_cont hk3 (x1.1, x1.2.1, x1.2.2) ⟨by omega, by omega, by omega, by omega⟩ (sub_of [] ⟨rfl, rfl, trivial⟩ ⟨rfl, trivial⟩ rfl)

/-! ### impl_valueAt -/
theorem c_impl_valueAt (list : List gSetting) (name : List UInt8) : Con Try.prog 98 [.sl 2 (list.map gSetting.v), .str name] [] (.tup [.int .i64 (m_impl_valueAt list name).1, .bool (m_impl_valueAt list name).2]) ([]) := by
  refine con_intro (out := fun r : Int × Bool => ((.tup [.int .i64 r.1, .bool r.2] : V), ([] : List (Nat × Option O)))) (r := (m_impl_valueAt list name)) Try.func98 rfl Try.ntmps98 rfl ?_
  refine run_fact (t := 0) rfl fun hl => ?_
  have l1 := hl; clear hl; simp only [List.length_map] at l1
  refine run_seq ?_
  refine run_region (q_assign .n (.c rfl) rfl <|
      q_assign .n (.c rfl) rfl <|
      Lex.nil) ?_
  refine run_seq ?_
  refine run_seq ?_
  refine run_region (q_move .n (.t rfl) rfl <|
      q_len .n (.t rfl) rfl len_map ss_47 rfl <|
      q_move .n (.c rfl) rfl <|
      Lex.nil) ?_
  refine run_block ?_
  refine run_LOOP (m_impl_valueAt_b1 list name) _ _ _ rfl (fun (x1 : Int) => 0 ≤ x1 ∧ x1 ≤ (list.length : Int)) (fun x1 => 0 ≤ x1 ∧ x1 ≤ (list.length : Int) ∧ (list.length : Int) ≤ x1) (fun x1 => ((list.length : Int) - x1 : Int).toNat) (fun x1 => ⟨[(1, some (true, .str name)), (8, some (true, .sl 2 (list.map gSetting.v))), (9, some (true, .int .i64 (list.length : Int))), (10, some (true, .int .i64 x1))], []⟩) (fun x1 => ⟨[], []⟩) ⟨by omega, by omega⟩ (by omega) (sub_of [] ⟨rfl, rfl, rfl, rfl, trivial⟩ trivial rfl) ?_ ?_
  · intro x1 i6
    obtain ⟨e7, e8, e9⟩ := i6
    try dsimp only at *
    refine run_seq ?_
    refine run_region (q_assign .n (.c rfl) rfl <|
        q_assign .n (.c rfl) rfl <|
        Lex.nil) ?_
    exact run_ret [] (.cons (.t rfl rfl) (.cons (.t rfl rfl) .nil)) rfl trivial rfl
  · intro rec1 k1 hk2 x1 i3
    obtain ⟨e10, e11⟩ := i3
    try dsimp only at *
    refine run_seq ?_
    refine run_region (q_int .n (.t rfl) (.t rfl) rfl rfl <|
        Lex.nil) ?_
    refine run_seq ?_
    refine run_cond (.t rfl) rfl (fun h4 => ?_) (fun h4 => ?_)
    · try simp only [Bool.and_eq_true, Bool.or_eq_true, Bool.not_eq_true', Bool.and_eq_false_iff, Bool.or_eq_false_iff, Bool.not_eq_false', decide_eq_true_eq, decide_eq_false_iff_not, beq_iff_eq, bne_iff_ne, beq_eq_false_iff_ne, bne_eq_false_iff_eq, Bool.true_and, ne_eq, Decidable.not_not, Int.not_lt, Int.not_le, Nat.not_lt, Nat.not_le, strB_nil, strB_nil', strB_nnil, strB_nnil'] at h4
      refine run_skip ?_
      refine run_seq ?_
      refine run_block ?_
      refine run_seq ?_
      refine run_region (q_idx_rm .n (.t rfl) (.t rfl) sl_47 (fun _ => by omega) rfl <|
          q_ldN_ro .n (.t rfl) ag_100 rfl rfl rfl <|
          q_alloc (l := 200) .n rfl zv_100 rfl rfl <|
          q_st_boxm [.str (at' list x1).Name, .int .i64 (at' list x1).Value] .n rfl (.t rfl) (.t rfl) rfl ts_100 rfl rfl <|
          Lex.nil) ?_
      refine run_seq ?_
      refine run_region (q_fld_ow .n (.t rfl) fo_100_0 rfl <|
          q_ld1_ow .n (.t rfl) rfl (.inr rfl) (fun _ => rfl) rfl ic_9 rfl <|
          q_move .n (.t rfl) rfl <|
          q_strcmp .n (.t rfl) (.t rfl) rfl rfl <|
          Lex.nil) ?_
      refine run_cond (.t rfl) rfl (fun h5 => ?_) (fun h5 => ?_)
      · try simp only [Bool.and_eq_true, Bool.or_eq_true, Bool.not_eq_true', Bool.and_eq_false_iff, Bool.or_eq_false_iff, Bool.not_eq_false', decide_eq_true_eq, decide_eq_false_iff_not, beq_iff_eq, bne_iff_ne, beq_eq_false_iff_ne, bne_eq_false_iff_eq, Bool.true_and, ne_eq, Decidable.not_not, Int.not_lt, Int.not_le, Nat.not_lt, Nat.not_le, strB_nil, strB_nil', strB_nnil, strB_nnil'] at h5
        refine run_seq ?_
        refine run_region (q_fld_ow .n (.t rfl) fo_100_1 rfl <|
            q_ld1_ow .n (.t rfl) rfl (.inr rfl) (fun _ => rfl) rfl ic_2 rfl <|
            q_assign .n (.t rfl) rfl <|
            q_assign .n (.c rfl) rfl <|
            Lex.nil) ?_
        exact run_ret [] (.cons (.t rfl rfl) (.cons (.t rfl rfl) .nil)) rfl trivial rfl
      · try simp only [Bool.and_eq_true, Bool.or_eq_true, Bool.not_eq_true', Bool.and_eq_false_iff, Bool.or_eq_false_iff, Bool.not_eq_false', decide_eq_true_eq, decide_eq_false_iff_not, beq_iff_eq, bne_iff_ne, beq_eq_false_iff_ne, bne_eq_false_iff_eq, Bool.true_and, ne_eq, Decidable.not_not, Int.not_lt, Int.not_le, Nat.not_lt, Nat.not_le, strB_nil, strB_nil', strB_nnil, strB_nnil'] at h5
        refine run_skip ?_
        refine run_endB ?_
        refine run_region (q_add .n (.t rfl) (.c rfl) (fun _ => by omega) rfl <|
            q_move .n (.t rfl) rfl <|
            Lex.nil) ?_
        exact run_again (x1 + 1) ⟨by omega, by omega⟩ (by omega) (sub_of [] ⟨rfl, rfl, rfl, rfl, trivial⟩ trivial rfl)
    · try simp only [Bool.and_eq_true, Bool.or_eq_true, Bool.not_eq_true', Bool.and_eq_false_iff, Bool.or_eq_false_iff, Bool.not_eq_false', decide_eq_true_eq, decide_eq_false_iff_not, beq_iff_eq, bne_iff_ne, beq_eq_false_iff_ne, bne_eq_false_iff_eq, Bool.true_and, ne_eq, Decidable.not_not, Int.not_lt, Int.not_le, Nat.not_lt, Nat.not_le, strB_nil, strB_nil', strB_nnil, strB_nnil'] at h4
      refine run_exit rfl ?_
      exact run_cont hk2 x1 ⟨by omega, by omega, by omega⟩ (sub_of [] trivial trivial rfl)

/-! ### impl_thingAt -/
theorem c_impl_thingAt (list : List gSetting) (name : List UInt8) : Con Try.prog 52 [.sl 2 (list.map gSetting.v), .str name] [] (.st [.int .i64 (m_impl_thingAt list name).value, .bool (m_impl_thingAt list name).there]) ([]) := by
  refine con_intro (out := fun r : gthing => ((.st [.int .i64 r.value, .bool r.there] : V), ([] : List (Nat × Option O)))) (r := (m_impl_thingAt list name)) Try.func52 rfl Try.ntmps52 rfl ?_
  refine run_fact (t := 0) rfl fun hl => ?_
  have l1 := hl; clear hl; simp only [List.length_map] at l1
  refine run_seq ?_
  refine run_region (q_alloc (l := 200) .n rfl zv_97 rfl rfl <|
      Lex.nil) ?_
  refine run_seq ?_
  refine run_region (q_move .n (.t rfl) rfl <|
      q_move .n (.t rfl) rfl <|
      q_call0 (full := false) .n .f en_98 (.cons (.t rfl) (.cons (.t rfl) .nil)) (.cons (.b (.a (.same rfl))) (.cons (.b (.a (.same rfl))) .nil)) (fun hg => c_impl_valueAt list name) rfl (fun h => Bool.noConfusion h) rfl <|
      q_move .n (.t rfl) rfl <|
      q_ext .n (.t rfl) rfl rfl rfl <|
      q_ext .n (.t rfl) rfl rfl rfl <|
      q_assign .n (.t rfl) rfl <|
      q_assign .n (.t rfl) rfl <|
      Lex.nil) ?_
  refine run_seq ?_
  refine run_region (q_move .n (.t rfl) rfl <|
      q_move .n (.t rfl) rfl <|
      q_build (us := [.int .i64 (m_impl_valueAt list name).1, .bool (m_impl_valueAt list name).2]) .n (.cons (.t rfl) (.cons (.t rfl) .nil)) zv_97 pl_97 rfl rfl rfl <|
      q_st_boxm [.int .i64 (m_impl_valueAt list name).1, .bool (m_impl_valueAt list name).2] .n rfl (.t rfl) (.t rfl) rfl ts_97 rfl rfl <|
      Lex.nil) ?_
  exact run_ret [] (.cons (.cN rfl rfl ag_97 rfl rfl) .nil) (by first | rfl | (simp only [put_len]; rfl)) trivial rfl

/-! ### impl_conflictsOf_1 -/
theorem c_impl_conflictsOf_1 (name : List UInt8) (p1 : List gSetting) (p2 : List gSetting) (p3 : List gSetting) : Con Try.prog 95 [.str name, .rp [.sl 2 (p1.map gSetting.v)], .rp [.sl 2 (p2.map gSetting.v)], .rp [.sl 2 (p3.map gSetting.v)]] [] (.bool (m_impl_conflictsOf_1 name p1 p2 p3)) ([]) := by
  refine con_intro (out := fun r : Bool => ((.bool r : V), ([] : List (Nat × Option O)))) (r := (m_impl_conflictsOf_1 name p1 p2 p3)) Try.func95 rfl Try.ntmps95 rfl ?_
  refine run_factP (t := 1) 0 rfl rfl fun hl => ?_
  have l1 := hl; clear hl; simp only [List.length_map] at l1
  refine run_factP (t := 2) 0 rfl rfl fun hl => ?_
  have l2 := hl; clear hl; simp only [List.length_map] at l2
  refine run_factP (t := 3) 0 rfl rfl fun hl => ?_
  have l3 := hl; clear hl; simp only [List.length_map] at l3
  refine run_seq ?_
  refine run_region (q_assign .n (.c rfl) rfl <|
      Lex.nil) ?_
  refine run_seq ?_
  refine run_draw fmo (q_ld1_ro .n (.t rfl) rfl ic_47 rfl <|
      q_move .n (.t rfl) rfl <|
      q_call0 (full := false) .n .f en_52 (.cons (.t rfl) (.cons (.t rfl) .nil)) (.cons (.b (.a (.same rfl))) (.cons (.b (.a (.same rfl))) .nil)) (fun hg => c_impl_thingAt p1 name) rfl (fun h => Bool.noConfusion h) rfl <|
      q_ld1_ro .n (.t rfl) rfl ic_47 rfl <|
      q_move .n (.t rfl) rfl <|
      q_call0 (full := false) .n .f en_52 (.cons (.t rfl) (.cons (.t rfl) .nil)) (.cons (.b (.a (.same rfl))) (.cons (.b (.a (.same rfl))) .nil)) (fun hg => c_impl_thingAt p2 name) rfl (fun h => Bool.noConfusion h) rfl <|
      q_ld1_ro .n (.t rfl) rfl ic_47 rfl <|
      q_move .n (.t rfl) rfl <|
      q_call0 (full := false) .n .f en_52 (.cons (.t rfl) (.cons (.t rfl) .nil)) (.cons (.b (.a (.same rfl))) (.cons (.b (.a (.same rfl))) .nil)) (fun hg => c_impl_thingAt p3 name) rfl (fun h => Bool.noConfusion h) rfl <|
      q_alloc (l := 200) .n rfl zv_97 rfl rfl <|
      q_alloc (l := 201) .n rfl zv_97 rfl rfl <|
      q_alloc (l := 202) .n rfl zv_97 rfl rfl <|
      q_st_boxm [.int .i64 (m_impl_thingAt p1 name).value, .bool (m_impl_thingAt p1 name).there] .n rfl (.t rfl) (.t rfl) rfl ts_97 rfl rfl <|
      q_st_boxm [.int .i64 (m_impl_thingAt p2 name).value, .bool (m_impl_thingAt p2 name).there] .n rfl (.t rfl) (.t rfl) rfl ts_97 rfl rfl <|
      q_st_boxm [.int .i64 (m_impl_thingAt p3 name).value, .bool (m_impl_thingAt p3 name).there] .n rfl (.t rfl) (.t rfl) rfl ts_97 rfl rfl <|
      Lex.nil) (by kernel_rfl) ?_
  refine run_seq ?_
  refine run_region (q_ldN_ow .n (.t rfl) rfl (.inr rfl) ag_97 (fun _ => rfl) rfl rfl <|
      q_ldN_ow .n (.t rfl) rfl (.inr rfl) ag_97 (fun _ => rfl) rfl rfl <|
      q_steq ((((m_impl_thingAt p2 name).value == (m_impl_thingAt p3 name).value) && (((m_impl_thingAt p2 name).there == (m_impl_thingAt p3 name).there) && true))) .n (.t rfl) (.t rfl) (by kernel_rfl) rfl rfl <|
      q_move .n (.t rfl) rfl <|
      q_ldN_ow (.f rfl rfl) (.t rfl) rfl (.inr rfl) ag_97 (fun _ => rfl) rfl rfl <|
      q_ldN_ow (.f rfl rfl) (.t rfl) rfl (.inr rfl) ag_97 (fun _ => rfl) rfl rfl <|
      q_steq ((((m_impl_thingAt p2 name).value == (m_impl_thingAt p1 name).value) && (((m_impl_thingAt p2 name).there == (m_impl_thingAt p1 name).there) && true))) (.f rfl rfl) (.u rfl id) (.u rfl id) (by kernel_rfl) rfl rfl <|
      q_or .n (.t rfl) (.u rfl id) rfl <|
      q_move .n (.t rfl) rfl <|
      q_ldN_ow (.f rfl rfl) (.t rfl) rfl (.inr rfl) ag_97 (fun _ => rfl) rfl rfl <|
      q_ldN_ow (.f rfl rfl) (.t rfl) rfl (.inr rfl) ag_97 (fun _ => rfl) rfl rfl <|
      q_steq ((((m_impl_thingAt p3 name).value == (m_impl_thingAt p1 name).value) && (((m_impl_thingAt p3 name).there == (m_impl_thingAt p1 name).there) && true))) (.f rfl rfl) (.u rfl id) (.u rfl id) (by kernel_rfl) rfl rfl <|
      q_or .n (.t rfl) (.u rfl id) rfl <|
      q_assign .n (.t rfl) rfl <|
      Lex.nil) ?_
  exact run_ret [] (.cons (.t rfl rfl) .nil) rfl trivial rfl

/-! ### impl_conflictsOf -/
theorem c_impl_conflictsOf (base : List gSetting) (a : List gSetting) (b : List gSetting) (hp1 : base.length ≤ 24) (hp2 : a.length ≤ 24) (hp3 : b.length ≤ 24) : Con Try.prog 50 [.sl 2 (base.map gSetting.v), .sl 2 (a.map gSetting.v), .sl 2 (b.map gSetting.v)] [] (.os 100 (m_impl_conflictsOf base a b).length) ([(100, some (.row 9 1 ((m_impl_conflictsOf base a b).map V.str)))]) := by
  refine con_intro (out := fun r : (List (List UInt8)) => ((.os 100 r.length : V), ([(100, some (.row 9 1 (r.map V.str)))] : List (Nat × Option O)))) (r := (m_impl_conflictsOf base a b)) Try.func50 rfl Try.ntmps50 rfl ?_
  refine run_fact (t := 0) rfl fun hl => ?_
  have l1 := hl; clear hl; simp only [List.length_map] at l1
  refine run_fact (t := 1) rfl fun hl => ?_
  have l2 := hl; clear hl; simp only [List.length_map] at l2
  refine run_fact (t := 2) rfl fun hl => ?_
  have l3 := hl; clear hl; simp only [List.length_map] at l3
  refine run_seq ?_
  refine run_region (q_box (l := 200) .n rfl (.t rfl) rfl rfl rfl rfl <|
      q_box (l := 201) .n rfl (.t rfl) rfl rfl rfl rfl <|
      q_box (l := 202) .n rfl (.t rfl) rfl rfl rfl rfl <|
      q_assign .n (.c rfl) rfl <|
      Lex.nil) ?_
  refine run_seq ?_
  refine run_region (q_ld1_ow .n (.t rfl) rfl (.inr rfl) (fun _ => rfl) rfl ic_47 rfl <|
      q_ld1_ow .n (.t rfl) rfl (.inr rfl) (fun _ => rfl) rfl ic_47 rfl <|
      q_ld1_ow .n (.t rfl) rfl (.inr rfl) (fun _ => rfl) rfl ic_47 rfl <|
      q_bslicem ([base, a, b] : List (List gSetting)) (f := slv 2 gSetting.v) (l := 203) .n rfl rfl (.cons (.t rfl) (.cons (.t rfl) (.cons (.t rfl) .nil))) rfl si_136 zv_47 rfl rfl rfl <|
      q_callM (full := true) [] [(100, 204)] .n rfl .f en_51 (.cons (.t rfl) .nil) (.cons (.b (.a (.own rfl rfl rfl (take_all (by simp only [len_map, put_len] <;> rfl)) (by simp only [len_map, put_len] <;> rfl)))) .nil) (c_impl_namesOf ([base, a, b] : List (List gSetting)) (by (simp only [List.length_append, List.length_cons, List.length_nil, List.length_replicate, put_len] at * <;> omega)) (by ((intro y hy; simp only [List.mem_cons, List.not_mem_nil, or_false] at hy; rcases hy with rfl | rfl | rfl <;> assumption)))) trivial rfl rfl (fun _ => rfl) (fun _ => (hr_row (fun _ => rfl) hr_nil)) rfl <|
      q_clo .n (.cons (.t rfl) (.cons (.t rfl) (.cons (.t rfl) .nil))) rfl rfl <|
      q_callM (full := true) [(0, 204)] [] .n rfl .f en_94 (.cons (.t rfl) (.cons (.t rfl) .nil)) (.cons (.b (.muts rfl)) (.cons (.clo (.cons (.ptr rfl rfl (.inr rfl) rfl rfl (.cons (.same rfl) .nil)) (.cons (.ptr rfl rfl (.inr rfl) rfl rfl (.cons (.same rfl) .nil)) (.cons (.ptr rfl rfl (.inr rfl) rfl rfl (.cons (.same rfl) .nil)) .nil)))) .nil)) (c_slices_DeleteFunc_string (m_impl_namesOf ([base, a, b] : List (List gSetting))) (fun (a0 : List UInt8) => m_impl_conflictsOf_1 a0 base a b) 95 [.rp [.sl 2 (base.map gSetting.v)], .rp [.sl 2 (a.map gSetting.v)], .rp [.sl 2 (b.map gSetting.v)]] en_95 rfl (fun a0 => c_impl_conflictsOf_1 a0 base a b) (by ((have hq := namesI_len hp1 hp2 hp3; omega)))) ⟨rfl, trivial⟩ rfl rfl (fun _ => rfl) (fun _ => (hr_row (fun _ => rfl) hr_nil)) rfl <|
      q_assign .n (.t rfl) rfl <|
      Lex.nil) ?_
  exact run_ret [(100, 204)] (.cons (.t rfl rfl) .nil) (by first | rfl | (simp only [put_len]; rfl)) ⟨rfl, trivial⟩ rfl

/-! ### impl_MergeStates -/
theorem c_impl_MergeStates (base : List gSetting) (a : List gSetting) (b : List gSetting) : Con Try.prog 18 [.sl 2 (base.map gSetting.v), .sl 2 (a.map gSetting.v), .sl 2 (b.map gSetting.v)] [] (.tup [.os 100 (m_impl_MergeStates base a b).1.length, .int .i64 (m_impl_MergeStates base a b).2]) ([(100, some (.row 100 2 ((m_impl_MergeStates base a b).1.map gSetting.v)))]) := by
  refine con_intro (out := fun r : (List gSetting) × Int => ((.tup [.os 100 r.1.length, .int .i64 r.2] : V), ([(100, some (.row 100 2 (r.1.map gSetting.v)))] : List (Nat × Option O)))) (r := (m_impl_MergeStates base a b)) Try.func18 rfl Try.ntmps18 rfl ?_
  refine run_fact (t := 0) rfl fun hl => ?_
  have l1 := hl; clear hl; simp only [List.length_map] at l1
  refine run_fact (t := 1) rfl fun hl => ?_
  have l2 := hl; clear hl; simp only [List.length_map] at l2
  refine run_fact (t := 2) rfl fun hl => ?_
  have l3 := hl; clear hl; simp only [List.length_map] at l3
  refine run_seq ?_
  refine run_region (q_assign .n (.c rfl) rfl <|
      q_assign .n (.c rfl) rfl <|
      Lex.nil) ?_
  refine run_seq ?_
  refine run_block ?_
  refine run_seq ?_
  refine run_region (q_move .n (.t rfl) rfl <|
      q_call0 (full := false) .n .f en_49 (.cons (.t rfl) .nil) (.cons (.b (.a (.same rfl))) .nil) (fun hg => c_impl_ValidState base) rfl (fun h => Bool.noConfusion h) rfl <|
      q_not .n (.t rfl) rfl <|
      q_move .n (.t rfl) rfl <|
      q_move (.f rfl rfl) (.t rfl) rfl <|
      q_call0 (full := false) (.f rfl rfl) .f en_49 (.cons (.u rfl id) .nil) (.cons (.b (.a (.same rfl))) .nil) (fun hg => c_impl_ValidState a) rfl (fun h => Bool.noConfusion h) rfl <|
      q_not (.f rfl rfl) (.u rfl id) rfl <|
      q_or .n (.t rfl) (.u rfl id) rfl <|
      q_move .n (.t rfl) rfl <|
      q_move (.f rfl rfl) (.t rfl) rfl <|
      q_call0 (full := false) (.f rfl rfl) .f en_49 (.cons (.u rfl id) .nil) (.cons (.b (.a (.same rfl))) .nil) (fun hg => c_impl_ValidState b) rfl (fun h => Bool.noConfusion h) rfl <|
      q_not (.f rfl rfl) (.u rfl id) rfl <|
      q_or .n (.t rfl) (.u rfl id) rfl <|
      q_assign .n (.t rfl) rfl <|
      Lex.nil) ?_
  refine run_cond (.t rfl) rfl (fun h4 => ?_) (fun h4 => ?_)
  · try simp only [Bool.and_eq_true, Bool.or_eq_true, Bool.not_eq_true', Bool.and_eq_false_iff, Bool.or_eq_false_iff, Bool.not_eq_false', decide_eq_true_eq, decide_eq_false_iff_not, beq_iff_eq, bne_iff_ne, beq_eq_false_iff_ne, bne_eq_false_iff_eq, Bool.true_and, ne_eq, Decidable.not_not, Int.not_lt, Int.not_le, Nat.not_lt, Nat.not_le, strB_nil, strB_nil', strB_nnil, strB_nnil'] at h4
    try have hf0h4 := state_l24I h4
    try have hf1h4 := state_l24I h4.1
    try have hf2h4 := state_l24I h4.2
    try have hf3h4 := state_l24I h4.1.1
    try have hf4h4 := state_l24I h4.1.2
    try have hf5h4 := state_l24I h4.2.1
    try have hf6h4 := state_l24I h4.2.2
    refine run_seq ?_
    refine run_region (q_assign .n (.c rfl) rfl <|
        q_assign .n (.c rfl) rfl <|
        Lex.nil) ?_
    refine run_sub (sub_adopt (t := 6) (l := 200) (el := 100) (sz := 2) rfl rfl) ?_
    exact run_ret [(100, 200)] (.cons (.t rfl rfl) (.cons (.t rfl rfl) .nil)) (by first | rfl | (simp only [put_len]; rfl)) ⟨rfl, trivial⟩ rfl
  · try simp only [Bool.and_eq_true, Bool.or_eq_true, Bool.not_eq_true', Bool.and_eq_false_iff, Bool.or_eq_false_iff, Bool.not_eq_false', decide_eq_true_eq, decide_eq_false_iff_not, beq_iff_eq, bne_iff_ne, beq_eq_false_iff_ne, bne_eq_false_iff_eq, Bool.true_and, ne_eq, Decidable.not_not, Int.not_lt, Int.not_le, Nat.not_lt, Nat.not_le, strB_nil, strB_nil', strB_nnil, strB_nnil'] at h4
    try have hf0h4 := state_l24I h4
    try have hf1h4 := state_l24I h4.1
    try have hf2h4 := state_l24I h4.2
    try have hf3h4 := state_l24I h4.1.1
    try have hf4h4 := state_l24I h4.1.2
    try have hf5h4 := state_l24I h4.2.1
    try have hf6h4 := state_l24I h4.2.2
    refine run_seq ?_
    refine run_region (q_move .n (.t rfl) rfl <|
        q_move .n (.t rfl) rfl <|
        q_move .n (.t rfl) rfl <|
        q_callM (full := false) [] [(100, 201)] .n rfl .f en_50 (.cons (.t rfl) (.cons (.t rfl) (.cons (.t rfl) .nil))) (.cons (.b (.a (.same rfl))) (.cons (.b (.a (.same rfl))) (.cons (.b (.a (.same rfl))) .nil))) (c_impl_conflictsOf base a b (by omega) (by omega) (by omega)) trivial rfl rfl (fun h => Bool.noConfusion h) (fun h => Bool.noConfusion h) rfl <|
        q_len .n (.t rfl) rfl rfl ss_53 rfl <|
        q_int .n (.t rfl) (.c rfl) rfl rfl <|
        q_assign .n (.t rfl) rfl <|
        Lex.nil) ?_
    refine run_cond (.t rfl) rfl (fun h5 => ?_) (fun h5 => ?_)
    · try simp only [Bool.and_eq_true, Bool.or_eq_true, Bool.not_eq_true', Bool.and_eq_false_iff, Bool.or_eq_false_iff, Bool.not_eq_false', decide_eq_true_eq, decide_eq_false_iff_not, beq_iff_eq, bne_iff_ne, beq_eq_false_iff_ne, bne_eq_false_iff_eq, Bool.true_and, ne_eq, Decidable.not_not, Int.not_lt, Int.not_le, Nat.not_lt, Nat.not_le, strB_nil, strB_nil', strB_nnil, strB_nnil'] at h5
      refine run_seq ?_
      refine run_region (q_assign .n (.c rfl) rfl <|
          q_assign .n (.c rfl) rfl <|
          Lex.nil) ?_
      refine run_sub (sub_adopt (t := 6) (l := 202) (el := 100) (sz := 2) rfl rfl) ?_
      exact run_ret [(100, 202)] (.cons (.t rfl rfl) (.cons (.t rfl rfl) .nil)) (by first | rfl | (simp only [put_len]; rfl)) ⟨rfl, trivial⟩ rfl
    · try simp only [Bool.and_eq_true, Bool.or_eq_true, Bool.not_eq_true', Bool.and_eq_false_iff, Bool.or_eq_false_iff, Bool.not_eq_false', decide_eq_true_eq, decide_eq_false_iff_not, beq_iff_eq, bne_iff_ne, beq_eq_false_iff_ne, bne_eq_false_iff_eq, Bool.true_and, ne_eq, Decidable.not_not, Int.not_lt, Int.not_le, Nat.not_lt, Nat.not_le, strB_nil, strB_nil', strB_nnil, strB_nnil'] at h5
      refine run_skip ?_
      refine run_endB ?_
      refine run_seq ?_
      refine run_region (q_assign .n (.c rfl) rfl <|
          Lex.nil) ?_
      refine run_seq ?_
      refine run_seq ?_
      refine run_region (q_move .n (.t rfl) rfl <|
          q_move .n (.t rfl) rfl <|
          q_move .n (.t rfl) rfl <|
          q_bslicem ([base, a, b] : List (List gSetting)) (f := slv 2 gSetting.v) (l := 203) .n rfl rfl (.cons (.t rfl) (.cons (.t rfl) (.cons (.t rfl) .nil))) rfl si_136 zv_47 rfl rfl rfl <|
          q_callM (full := true) [] [(100, 204)] .n rfl .f en_51 (.cons (.t rfl) .nil) (.cons (.b (.a (.own rfl rfl rfl (take_all (by simp only [len_map, put_len] <;> rfl)) (by simp only [len_map, put_len] <;> rfl)))) .nil) (c_impl_namesOf ([base, a, b] : List (List gSetting)) (by (simp only [List.length_append, List.length_cons, List.length_nil, List.length_replicate, put_len] at * <;> omega)) (by ((intro y hy; simp only [List.mem_cons, List.not_mem_nil, or_false] at hy; rcases hy with rfl | rfl | rfl <;> assumption)))) trivial rfl rfl (fun _ => rfl) (fun _ => (hr_row (fun _ => rfl) hr_nil)) rfl <|
          q_len .n (.t rfl) rfl rfl ss_53 rfl <|
          q_move .n (.c rfl) rfl <|
          Lex.nil) ?_
      refine run_block ?_
      refine run_sub (sub_adopt (t := 8) (l := 205) (el := 100) (sz := 2) rfl rfl) ?_
      refine run_LOOP (m_impl_MergeStates_b1 base a b) _ _ _ rfl (fun (x1 : (List gSetting) × Int) => 0 ≤ x1.2 ∧ x1.2 ≤ ((m_impl_namesOf ([base, a, b] : List (List gSetting))).length : Int) ∧ (x1.1.length : Int) + 0 ≤ x1.2 + (([] : List gSetting).length : Int) ∧ (x1.1.length : Int) ≤ x1.2) (fun x1 => 0 ≤ x1.2 ∧ x1.2 ≤ ((m_impl_namesOf ([base, a, b] : List (List gSetting))).length : Int) ∧ (x1.1.length : Int) + 0 ≤ x1.2 + (([] : List gSetting).length : Int) ∧ (x1.1.length : Int) ≤ x1.2 ∧ ((m_impl_namesOf ([base, a, b] : List (List gSetting))).length : Int) ≤ x1.2) (fun x1 => (((m_impl_namesOf ([base, a, b] : List (List gSetting))).length : Int) - x1.2 : Int).toNat) (fun x1 => ⟨[(0, some (true, .sl 2 (base.map gSetting.v))), (1, some (true, .sl 2 (a.map gSetting.v))), (2, some (true, .sl 2 (b.map gSetting.v))), (8, some (true, .os 205 x1.1.length)), (37, some (true, .os 204 (m_impl_namesOf ([base, a, b] : List (List gSetting))).length)), (38, some (true, .int .i64 ((m_impl_namesOf ([base, a, b] : List (List gSetting))).length : Int))), (39, some (true, .int .i64 x1.2))], [(204, some (.row 9 1 ((m_impl_namesOf ([base, a, b] : List (List gSetting))).map V.str))), (205, some (.row 100 2 (x1.1.map gSetting.v)))]⟩) (fun x1 => ⟨[(8, some (true, .os 205 x1.1.length))], [(205, some (.row 100 2 (x1.1.map gSetting.v)))]⟩) ⟨by omega, by omega, by (simp only [List.length_append, List.length_cons, List.length_nil, List.length_replicate, put_len] at * <;> omega), by (simp only [List.length_append, List.length_cons, List.length_nil, List.length_replicate, put_len] at * <;> omega)⟩ (by omega) (sub_of [] ⟨rfl, rfl, rfl, rfl, rfl, rfl, rfl, trivial⟩ ⟨rfl, rfl, trivial⟩ rfl) ?_ ?_
      · intro x1 i14
        obtain ⟨e16, e17, e18, e19, e20⟩ := i14
        try dsimp only at *
        refine run_seq ?_
        refine run_seq ?_
        refine run_region (q_move .n (.t rfl) rfl <|
            q_len .n (.t rfl) rfl rfl ss_47 rfl <|
            q_int .n (.t rfl) (.c rfl) rfl rfl <|
            Lex.nil) ?_
        refine run_cond (.t rfl) rfl (fun h15 => ?_) (fun h15 => ?_)
        · try simp only [Bool.and_eq_true, Bool.or_eq_true, Bool.not_eq_true', Bool.and_eq_false_iff, Bool.or_eq_false_iff, Bool.not_eq_false', decide_eq_true_eq, decide_eq_false_iff_not, beq_iff_eq, bne_iff_ne, beq_eq_false_iff_ne, bne_eq_false_iff_eq, Bool.true_and, ne_eq, Decidable.not_not, Int.not_lt, Int.not_le, Nat.not_lt, Nat.not_le, strB_nil, strB_nil', strB_nnil, strB_nnil'] at h15
          refine run_seq ?_
          refine run_region (q_assign .n (.c rfl) rfl <|
              q_assign .n (.c rfl) rfl <|
              Lex.nil) ?_
          refine run_sub (sub_adopt (t := 6) (l := 210) (el := 100) (sz := 2) rfl rfl) ?_
          exact run_ret [(100, 210)] (.cons (.t rfl rfl) (.cons (.t rfl rfl) .nil)) (by first | rfl | (simp only [put_len]; rfl)) ⟨rfl, trivial⟩ rfl
        · try simp only [Bool.and_eq_true, Bool.or_eq_true, Bool.not_eq_true', Bool.and_eq_false_iff, Bool.or_eq_false_iff, Bool.not_eq_false', decide_eq_true_eq, decide_eq_false_iff_not, beq_iff_eq, bne_iff_ne, beq_eq_false_iff_ne, bne_eq_false_iff_eq, Bool.true_and, ne_eq, Decidable.not_not, Int.not_lt, Int.not_le, Nat.not_lt, Nat.not_le, strB_nil, strB_nil', strB_nnil, strB_nnil'] at h15
          refine run_skip ?_
          refine run_seq ?_
          refine run_region (q_move .n (.t rfl) rfl <|
              q_assign .n (.t rfl) rfl <|
              q_assign .n (.c rfl) rfl <|
              Lex.nil) ?_
          exact run_ret [(100, 205)] (.cons (.t rfl rfl) (.cons (.t rfl rfl) .nil)) (by first | rfl | (simp only [put_len]; rfl)) ⟨rfl, trivial⟩ rfl
      · intro rec1 k1 hk6 x1 i7
        obtain ⟨e21, e22, e23, e24⟩ := i7
        try dsimp only at *
        refine run_seq ?_
        refine run_region (q_int .n (.t rfl) (.t rfl) rfl rfl <|
            Lex.nil) ?_
        refine run_seq ?_
        refine run_cond (.t rfl) rfl (fun h8 => ?_) (fun h8 => ?_)
        · try simp only [Bool.and_eq_true, Bool.or_eq_true, Bool.not_eq_true', Bool.and_eq_false_iff, Bool.or_eq_false_iff, Bool.not_eq_false', decide_eq_true_eq, decide_eq_false_iff_not, beq_iff_eq, bne_iff_ne, beq_eq_false_iff_ne, bne_eq_false_iff_eq, Bool.true_and, ne_eq, Decidable.not_not, Int.not_lt, Int.not_le, Nat.not_lt, Nat.not_le, strB_nil, strB_nil', strB_nnil, strB_nnil'] at h8
          refine run_skip ?_
          refine run_seq ?_
          refine run_block ?_
          refine run_seq ?_
          refine run_region (q_idx_ow .n (.t rfl) (.t rfl) sl_53 (fun _ => by omega) rfl <|
              q_ld1_row .n (.t rfl) rfl (fun _ => by omega) rfl rfl rfl ic_9 rfl <|
              q_assign .n (.t rfl) rfl <|
              Lex.nil) ?_
          refine run_seq ?_
          refine run_region (q_move .n (.t rfl) rfl <|
              q_move .n (.t rfl) rfl <|
              q_call0 (full := false) .n .f en_52 (.cons (.t rfl) (.cons (.t rfl) .nil)) (.cons (.b (.a (.same rfl))) (.cons (.b (.a (.same rfl))) .nil)) (fun hg => c_impl_thingAt a (at' (m_impl_namesOf ([base, a, b] : List (List gSetting))) x1.2)) rfl (fun h => Bool.noConfusion h) rfl <|
              q_alloc (l := 207) .n rfl zv_97 rfl rfl <|
              q_st_boxm [.int .i64 (m_impl_thingAt a (at' (m_impl_namesOf ([base, a, b] : List (List gSetting))) x1.2)).value, .bool (m_impl_thingAt a (at' (m_impl_namesOf ([base, a, b] : List (List gSetting))) x1.2)).there] .n rfl (.t rfl) (.t rfl) rfl ts_97 rfl rfl <|
              Lex.nil) ?_
          refine run_seq ?_
          refine run_seq ?_
          refine run_draw fmo (q_ldN_ow .n (.t rfl) rfl (.inr rfl) ag_97 (fun _ => rfl) rfl rfl <|
              q_move .n (.t rfl) rfl <|
              q_move .n (.t rfl) rfl <|
              q_call0 (full := false) .n .f en_52 (.cons (.t rfl) (.cons (.t rfl) .nil)) (.cons (.b (.a (.same rfl))) (.cons (.b (.a (.same rfl))) .nil)) (fun hg => c_impl_thingAt base (at' (m_impl_namesOf ([base, a, b] : List (List gSetting))) x1.2)) rfl (fun h => Bool.noConfusion h) rfl <|
              q_steq ((((m_impl_thingAt a (at' (m_impl_namesOf ([base, a, b] : List (List gSetting))) x1.2)).value == (m_impl_thingAt base (at' (m_impl_namesOf ([base, a, b] : List (List gSetting))) x1.2)).value) && (((m_impl_thingAt a (at' (m_impl_namesOf ([base, a, b] : List (List gSetting))) x1.2)).there == (m_impl_thingAt base (at' (m_impl_namesOf ([base, a, b] : List (List gSetting))) x1.2)).there) && true))) .n (.t rfl) (.t rfl) (by kernel_rfl) rfl rfl <|
              Lex.nil) (by kernel_rfl) ?_
          refine run_join _ _ rfl (fun v9 : Int × Bool => True) (fun v9 => ⟨[(0, some (true, .sl 2 (base.map gSetting.v))), (1, some (true, .sl 2 (a.map gSetting.v))), (2, some (true, .sl 2 (b.map gSetting.v))), (8, some (true, .os 205 x1.1.length)), (10, some (true, .str (at' (m_impl_namesOf ([base, a, b] : List (List gSetting))) x1.2))), (11, some (true, .op 207 0 0 0)), (37, some (true, .os 204 (m_impl_namesOf ([base, a, b] : List (List gSetting))).length)), (38, some (true, .int .i64 ((m_impl_namesOf ([base, a, b] : List (List gSetting))).length : Int))), (39, some (true, .int .i64 x1.2))], [(204, some (.row 9 1 ((m_impl_namesOf ([base, a, b] : List (List gSetting))).map V.str))), (205, some (.row 100 2 (x1.1.map gSetting.v))), (207, some (.box 97 [.int .i64 v9.1, .bool v9.2]))]⟩) (fun v9 _ => ?_) (fun j10 hj11 => ?_)
          · refine run_seq ?_
            refine run_region (q_fld_ow .n (.t rfl) fo_97_1 rfl <|
                q_ld1_ow .n (.t rfl) rfl (.inr rfl) (fun _ => rfl) rfl ic_4 rfl <|
                Lex.nil) ?_
            refine run_cond (.t rfl) rfl (fun h13 => ?_) (fun h13 => ?_)
            · try simp only [Bool.and_eq_true, Bool.or_eq_true, Bool.not_eq_true', Bool.and_eq_false_iff, Bool.or_eq_false_iff, Bool.not_eq_false', decide_eq_true_eq, decide_eq_false_iff_not, beq_iff_eq, bne_iff_ne, beq_eq_false_iff_ne, bne_eq_false_iff_eq, Bool.true_and, ne_eq, Decidable.not_not, Int.not_lt, Int.not_le, Nat.not_lt, Nat.not_le, strB_nil, strB_nil', strB_nnil, strB_nnil'] at h13
              refine run_region (q_move .n (.t rfl) rfl <|
                  q_move .n (.t rfl) rfl <|
                  q_fld_ow .n (.t rfl) fo_97_0 rfl <|
                  q_ld1_ow .n (.t rfl) rfl (.inr rfl) (fun _ => rfl) rfl ic_2 rfl <|
                  q_build (us := [.str (at' (m_impl_namesOf ([base, a, b] : List (List gSetting))) x1.2), .int .i64 v9.1]) .n (.cons (.t rfl) (.cons (.t rfl) .nil)) zv_100 pl_100 rfl rfl rfl <|
                  q_bslicem ([gSetting.mk (at' (m_impl_namesOf ([base, a, b] : List (List gSetting))) x1.2) v9.1] : List gSetting) (f := gSetting.v) (l := 208) .n rfl rfl (.cons (.t rfl) .nil) rfl si_47 zv_100 rfl rfl rfl <|
                  q_appm (xs := x1.1) (ys := ([gSetting.mk (at' (m_impl_namesOf ([base, a, b] : List (List gSetting))) x1.2) v9.1] : List gSetting)) (f := gSetting.v) (l := 209) .n rfl (.ow (.t rfl) rfl (take_all (by simp only [len_map, put_len] <;> rfl)) (by simp only [len_map, put_len] <;> rfl)) (.ow (.t rfl) rfl (take_all (by simp only [len_map, put_len] <;> rfl)) (by simp only [len_map, put_len] <;> rfl)) si_47 zv_100 rfl (by ((have hq := namesI_len (base := base) (a := a) (b := b) (by assumption) (by assumption) (by assumption); first | omega | (simp only [List.length_append, List.length_cons, List.length_nil]; omega)))) rfl rfl <|
                  q_assign .n (.t rfl) rfl <|
                  Lex.nil) ?_
              refine run_endB ?_
              refine run_region (q_add .n (.t rfl) (.c rfl) (fun _ => by ((have hq := namesI_len (base := base) (a := a) (b := b) (by assumption) (by assumption) (by assumption); first | omega | (simp only [List.length_append, List.length_cons, List.length_nil]; omega)))) rfl <|
                  q_move .n (.t rfl) rfl <|
                  Lex.nil) ?_
              exact run_again (x1.1 ++ ([gSetting.mk (at' (m_impl_namesOf ([base, a, b] : List (List gSetting))) x1.2) v9.1] : List gSetting), x1.2 + 1) ⟨by omega, by omega, by (simp only [List.length_append, List.length_cons, List.length_nil, List.length_replicate, put_len] at * <;> omega), by (simp only [List.length_append, List.length_cons, List.length_nil, List.length_replicate, put_len] at * <;> omega)⟩ (by omega) (sub_of [(205, 209)] ⟨rfl, rfl, rfl, rfl, rfl, rfl, rfl, trivial⟩ ⟨rfl, rfl, trivial⟩ rfl)
            · try simp only [Bool.and_eq_true, Bool.or_eq_true, Bool.not_eq_true', Bool.and_eq_false_iff, Bool.or_eq_false_iff, Bool.not_eq_false', decide_eq_true_eq, decide_eq_false_iff_not, beq_iff_eq, bne_iff_ne, beq_eq_false_iff_ne, bne_eq_false_iff_eq, Bool.true_and, ne_eq, Decidable.not_not, Int.not_lt, Int.not_le, Nat.not_lt, Nat.not_le, strB_nil, strB_nil', strB_nnil, strB_nnil'] at h13
              refine run_skip ?_
              refine run_endB ?_
              refine run_region (q_add .n (.t rfl) (.c rfl) (fun _ => by ((have hq := namesI_len (base := base) (a := a) (b := b) (by assumption) (by assumption) (by assumption); first | omega | (simp only [List.length_append, List.length_cons, List.length_nil]; omega)))) rfl <|
                  q_move .n (.t rfl) rfl <|
                  Lex.nil) ?_
              exact run_again (x1.1, x1.2 + 1) ⟨by omega, by omega, by (simp only [List.length_append, List.length_cons, List.length_nil, List.length_replicate, put_len] at * <;> omega), by (simp only [List.length_append, List.length_cons, List.length_nil, List.length_replicate, put_len] at * <;> omega)⟩ (by omega) (sub_of [] ⟨rfl, rfl, rfl, rfl, rfl, rfl, rfl, trivial⟩ ⟨rfl, rfl, trivial⟩ rfl)
          · refine run_cond (.t rfl) rfl (fun h12 => ?_) (fun h12 => ?_)
            · try simp only [Bool.and_eq_true, Bool.or_eq_true, Bool.not_eq_true', Bool.and_eq_false_iff, Bool.or_eq_false_iff, Bool.not_eq_false', decide_eq_true_eq, decide_eq_false_iff_not, beq_iff_eq, bne_iff_ne, beq_eq_false_iff_ne, bne_eq_false_iff_eq, Bool.true_and, ne_eq, Decidable.not_not, Int.not_lt, Int.not_le, Nat.not_lt, Nat.not_le, strB_nil, strB_nil', strB_nnil, strB_nnil'] at h12
              refine run_region (q_move .n (.t rfl) rfl <|
                  q_move .n (.t rfl) rfl <|
                  q_call0 (full := false) .n .f en_52 (.cons (.t rfl) (.cons (.t rfl) .nil)) (.cons (.b (.a (.same rfl))) (.cons (.b (.a (.same rfl))) .nil)) (fun hg => c_impl_thingAt b (at' (m_impl_namesOf ([base, a, b] : List (List gSetting))) x1.2)) rfl (fun h => Bool.noConfusion h) rfl <|
                  q_st_boxm [.int .i64 (m_impl_thingAt b (at' (m_impl_namesOf ([base, a, b] : List (List gSetting))) x1.2)).value, .bool (m_impl_thingAt b (at' (m_impl_namesOf ([base, a, b] : List (List gSetting))) x1.2)).there] .n rfl (.t rfl) (.t rfl) rfl ts_97 rfl rfl <|
                  Lex.nil) ?_
              exact run_cont hj11 ((m_impl_thingAt b (at' (m_impl_namesOf ([base, a, b] : List (List gSetting))) x1.2)).value, (m_impl_thingAt b (at' (m_impl_namesOf ([base, a, b] : List (List gSetting))) x1.2)).there) trivial (sub_of [] ⟨rfl, rfl, rfl, rfl, rfl, rfl, rfl, rfl, rfl, trivial⟩ ⟨rfl, rfl, rfl, trivial⟩ rfl)
            · try simp only [Bool.and_eq_true, Bool.or_eq_true, Bool.not_eq_true', Bool.and_eq_false_iff, Bool.or_eq_false_iff, Bool.not_eq_false', decide_eq_true_eq, decide_eq_false_iff_not, beq_iff_eq, bne_iff_ne, beq_eq_false_iff_ne, bne_eq_false_iff_eq, Bool.true_and, ne_eq, Decidable.not_not, Int.not_lt, Int.not_le, Nat.not_lt, Nat.not_le, strB_nil, strB_nil', strB_nnil, strB_nnil'] at h12
              refine run_skip ?_
              exact run_cont hj11 ((m_impl_thingAt a (at' (m_impl_namesOf ([base, a, b] : List (List gSetting))) x1.2)).value, (m_impl_thingAt a (at' (m_impl_namesOf ([base, a, b] : List (List gSetting))) x1.2)).there) trivial (sub_of [] ⟨rfl, rfl, rfl, rfl, rfl, rfl, rfl, rfl, rfl, trivial⟩ ⟨rfl, rfl, rfl, trivial⟩ rfl)
        · try simp only [Bool.and_eq_true, Bool.or_eq_true, Bool.not_eq_true', Bool.and_eq_false_iff, Bool.or_eq_false_iff, Bool.not_eq_false', decide_eq_true_eq, decide_eq_false_iff_not, beq_iff_eq, bne_iff_ne, beq_eq_false_iff_ne, bne_eq_false_iff_eq, Bool.true_and, ne_eq, Decidable.not_not, Int.not_lt, Int.not_le, Nat.not_lt, Nat.not_le, strB_nil, strB_nil', strB_nnil, strB_nnil'] at h8
          refine run_exit rfl ?_
          exact run_cont hk6 (x1.1, x1.2) ⟨by omega, by omega, by omega, by omega, by omega⟩ (sub_of [] ⟨rfl, trivial⟩ ⟨rfl, trivial⟩ rfl)

/-! ### spec_l27Same -/
theorem c_spec_l27Same (a : List gSetting) (b : List gSetting) : Con Try.prog 53 [.sl 2 (a.map gSetting.v), .sl 2 (b.map gSetting.v)] [] (.bool (m_spec_l27Same a b)) ([]) := by
  refine con_intro (out := fun r : Bool => ((.bool r : V), ([] : List (Nat × Option O)))) (r := (m_spec_l27Same a b)) Try.func53 rfl Try.ntmps53 rfl ?_
  refine run_fact (t := 0) rfl fun hl => ?_
  have l1 := hl; clear hl; simp only [List.length_map] at l1
  refine run_fact (t := 1) rfl fun hl => ?_
  have l2 := hl; clear hl; simp only [List.length_map] at l2
  refine run_seq ?_
  refine run_region (q_assign .n (.c rfl) rfl <|
      Lex.nil) ?_
  refine run_seq ?_
  refine run_seq ?_
  refine run_region (q_move .n (.t rfl) rfl <|
      q_len .n (.t rfl) rfl len_map ss_47 rfl <|
      q_move .n (.t rfl) rfl <|
      q_len .n (.t rfl) rfl len_map ss_47 rfl <|
      q_int .n (.t rfl) (.t rfl) rfl rfl <|
      Lex.nil) ?_
  refine run_cond (.t rfl) rfl (fun h3 => ?_) (fun h3 => ?_)
  · try simp only [Bool.and_eq_true, Bool.or_eq_true, Bool.not_eq_true', Bool.and_eq_false_iff, Bool.or_eq_false_iff, Bool.not_eq_false', decide_eq_true_eq, decide_eq_false_iff_not, beq_iff_eq, bne_iff_ne, beq_eq_false_iff_ne, bne_eq_false_iff_eq, Bool.true_and, ne_eq, Decidable.not_not, Int.not_lt, Int.not_le, Nat.not_lt, Nat.not_le, strB_nil, strB_nil', strB_nnil, strB_nnil'] at h3
    refine run_seq ?_
    refine run_region (q_assign .n (.c rfl) rfl <|
        Lex.nil) ?_
    exact run_ret [] (.cons (.t rfl rfl) .nil) rfl trivial rfl
  · try simp only [Bool.and_eq_true, Bool.or_eq_true, Bool.not_eq_true', Bool.and_eq_false_iff, Bool.or_eq_false_iff, Bool.not_eq_false', decide_eq_true_eq, decide_eq_false_iff_not, beq_iff_eq, bne_iff_ne, beq_eq_false_iff_ne, bne_eq_false_iff_eq, Bool.true_and, ne_eq, Decidable.not_not, Int.not_lt, Int.not_le, Nat.not_lt, Nat.not_le, strB_nil, strB_nil', strB_nnil, strB_nnil'] at h3
    refine run_skip ?_
    refine run_seq ?_
    refine run_seq ?_
    refine run_region (q_assign .n (.c rfl) rfl <|
        Lex.nil) ?_
    refine run_block ?_
    refine run_LOOP (m_spec_l27Same_b1 a b) _ _ _ rfl (fun (x1 : Int) => 0 ≤ x1 ∧ x1 ≤ (a.length : Int)) (fun x1 => 0 ≤ x1 ∧ x1 ≤ (a.length : Int) ∧ (a.length : Int) ≤ x1) (fun x1 => ((a.length : Int) - x1 : Int).toNat) (fun x1 => ⟨[(0, some (true, .sl 2 (a.map gSetting.v))), (1, some (true, .sl 2 (b.map gSetting.v))), (5, some (true, .int .i64 x1))], []⟩) (fun x1 => ⟨[], []⟩) ⟨by omega, by omega⟩ (by omega) (sub_of [] ⟨rfl, rfl, rfl, trivial⟩ trivial rfl) ?_ ?_
    · intro x1 i8
      obtain ⟨e9, e10, e11⟩ := i8
      try dsimp only at *
      refine run_seq ?_
      refine run_region (q_assign .n (.c rfl) rfl <|
          Lex.nil) ?_
      exact run_ret [] (.cons (.t rfl rfl) .nil) rfl trivial rfl
    · intro rec1 k1 hk4 x1 i5
      obtain ⟨e12, e13⟩ := i5
      try dsimp only at *
      refine run_seq ?_
      refine run_seq ?_
      refine run_region (q_move .n (.t rfl) rfl <|
          q_move .n (.t rfl) rfl <|
          q_len .n (.t rfl) rfl len_map ss_47 rfl <|
          q_int .n (.t rfl) (.t rfl) rfl rfl <|
          Lex.nil) ?_
      refine run_cond (.t rfl) rfl (fun h6 => ?_) (fun h6 => ?_)
      · try simp only [Bool.and_eq_true, Bool.or_eq_true, Bool.not_eq_true', Bool.and_eq_false_iff, Bool.or_eq_false_iff, Bool.not_eq_false', decide_eq_true_eq, decide_eq_false_iff_not, beq_iff_eq, bne_iff_ne, beq_eq_false_iff_ne, bne_eq_false_iff_eq, Bool.true_and, ne_eq, Decidable.not_not, Int.not_lt, Int.not_le, Nat.not_lt, Nat.not_le, strB_nil, strB_nil', strB_nnil, strB_nnil'] at h6
        refine run_skip ?_
        refine run_seq ?_
        refine run_block ?_
        refine run_seq ?_
        refine run_draw fmo (q_move .n (.t rfl) rfl <|
            q_move .n (.t rfl) rfl <|
            q_idx_rm .n (.t rfl) (.t rfl) sl_47 (fun _ => by omega) rfl <|
            q_ldN_ro .n (.t rfl) ag_100 rfl rfl rfl <|
            q_move .n (.t rfl) rfl <|
            q_move .n (.t rfl) rfl <|
            q_idx_rm .n (.t rfl) (.t rfl) sl_47 (fun _ => by omega) rfl <|
            q_ldN_ro .n (.t rfl) ag_100 rfl rfl rfl <|
            q_stne (!((strB .eql (at' a x1).Name (at' b x1).Name) && (((at' a x1).Value == (at' b x1).Value) && true))) .n (.t rfl) (.t rfl) (by kernel_rfl) rfl rfl <|
            Lex.nil) (by kernel_rfl) ?_
        refine run_cond (.t rfl) rfl (fun h7 => ?_) (fun h7 => ?_)
        · try simp only [Bool.and_eq_true, Bool.or_eq_true, Bool.not_eq_true', Bool.and_eq_false_iff, Bool.or_eq_false_iff, Bool.not_eq_false', decide_eq_true_eq, decide_eq_false_iff_not, beq_iff_eq, bne_iff_ne, beq_eq_false_iff_ne, bne_eq_false_iff_eq, Bool.true_and, ne_eq, Decidable.not_not, Int.not_lt, Int.not_le, Nat.not_lt, Nat.not_le, strB_nil, strB_nil', strB_nnil, strB_nnil'] at h7
          refine run_seq ?_
          refine run_region (q_assign .n (.c rfl) rfl <|
              Lex.nil) ?_
          exact run_ret [] (.cons (.t rfl rfl) .nil) rfl trivial rfl
        · try simp only [Bool.and_eq_true, Bool.or_eq_true, Bool.not_eq_true', Bool.and_eq_false_iff, Bool.or_eq_false_iff, Bool.not_eq_false', decide_eq_true_eq, decide_eq_false_iff_not, beq_iff_eq, bne_iff_ne, beq_eq_false_iff_ne, bne_eq_false_iff_eq, Bool.true_and, ne_eq, Decidable.not_not, Int.not_lt, Int.not_le, Nat.not_lt, Nat.not_le, strB_nil, strB_nil', strB_nnil, strB_nnil'] at h7
          refine run_skip ?_
          refine run_endB ?_
          refine run_region (q_move .n (.t rfl) rfl <|
              q_add .n (.t rfl) (.c rfl) (fun _ => by omega) rfl <|
              q_assign .n (.t rfl) rfl <|
              Lex.nil) ?_
          exact run_again (x1 + 1) ⟨by omega, by omega⟩ (by omega) (sub_of [] ⟨rfl, rfl, rfl, trivial⟩ trivial rfl)
      · try simp only [Bool.and_eq_true, Bool.or_eq_true, Bool.not_eq_true', Bool.and_eq_false_iff, Bool.or_eq_false_iff, Bool.not_eq_false', decide_eq_true_eq, decide_eq_false_iff_not, beq_iff_eq, bne_iff_ne, beq_eq_false_iff_ne, bne_eq_false_iff_eq, Bool.true_and, ne_eq, Decidable.not_not, Int.not_lt, Int.not_le, Nat.not_lt, Nat.not_le, strB_nil, strB_nil', strB_nnil, strB_nnil'] at h6
        refine run_exit rfl ?_
        exact run_cont hk4 x1 ⟨by omega, by omega, by omega⟩ (sub_of [] trivial trivial rfl)

/-! ### spec_SameState -/
theorem c_spec_SameState (a : List gSetting) (b : List gSetting) : Con Try.prog 19 [.sl 2 (a.map gSetting.v), .sl 2 (b.map gSetting.v)] [] (.bool (m_spec_SameState a b)) ([]) := by
  refine con_intro (out := fun r : Bool => ((.bool r : V), ([] : List (Nat × Option O)))) (r := (m_spec_SameState a b)) Try.func19 rfl Try.ntmps19 rfl ?_
  refine run_fact (t := 0) rfl fun hl => ?_
  have l1 := hl; clear hl; simp only [List.length_map] at l1
  refine run_fact (t := 1) rfl fun hl => ?_
  have l2 := hl; clear hl; simp only [List.length_map] at l2
  refine run_seq ?_
  refine run_region (q_assign .n (.c rfl) rfl <|
      Lex.nil) ?_
  refine run_seq ?_
  refine run_region (q_move .n (.t rfl) rfl <|
      q_move .n (.t rfl) rfl <|
      q_call0 (full := false) .n .f en_53 (.cons (.t rfl) (.cons (.t rfl) .nil)) (.cons (.b (.a (.same rfl))) (.cons (.b (.a (.same rfl))) .nil)) (fun hg => c_spec_l27Same a b) rfl (fun h => Bool.noConfusion h) rfl <|
      q_assign .n (.t rfl) rfl <|
      Lex.nil) ?_
  exact run_ret [] (.cons (.t rfl rfl) .nil) rfl trivial rfl

/-! ### impl_ConflictsOf -/
theorem c_impl_ConflictsOf (base : List gSetting) (a : List gSetting) (b : List gSetting) : Con Try.prog 20 [.sl 2 (base.map gSetting.v), .sl 2 (a.map gSetting.v), .sl 2 (b.map gSetting.v)] [] (.tup [.os 100 (m_impl_ConflictsOf base a b).1.length, .int .i64 (m_impl_ConflictsOf base a b).2]) ([(100, some (.row 9 1 ((m_impl_ConflictsOf base a b).1.map V.str)))]) := by
  refine con_intro (out := fun r : (List (List UInt8)) × Int => ((.tup [.os 100 r.1.length, .int .i64 r.2] : V), ([(100, some (.row 9 1 (r.1.map V.str)))] : List (Nat × Option O)))) (r := (m_impl_ConflictsOf base a b)) Try.func20 rfl Try.ntmps20 rfl ?_
  refine run_fact (t := 0) rfl fun hl => ?_
  have l1 := hl; clear hl; simp only [List.length_map] at l1
  refine run_fact (t := 1) rfl fun hl => ?_
  have l2 := hl; clear hl; simp only [List.length_map] at l2
  refine run_fact (t := 2) rfl fun hl => ?_
  have l3 := hl; clear hl; simp only [List.length_map] at l3
  refine run_seq ?_
  refine run_region (q_assign .n (.c rfl) rfl <|
      q_assign .n (.c rfl) rfl <|
      Lex.nil) ?_
  refine run_seq ?_
  refine run_seq ?_
  refine run_region (q_move .n (.t rfl) rfl <|
      q_call0 (full := false) .n .f en_49 (.cons (.t rfl) .nil) (.cons (.b (.a (.same rfl))) .nil) (fun hg => c_impl_ValidState base) rfl (fun h => Bool.noConfusion h) rfl <|
      q_not .n (.t rfl) rfl <|
      q_move .n (.t rfl) rfl <|
      q_move (.f rfl rfl) (.t rfl) rfl <|
      q_call0 (full := false) (.f rfl rfl) .f en_49 (.cons (.u rfl id) .nil) (.cons (.b (.a (.same rfl))) .nil) (fun hg => c_impl_ValidState a) rfl (fun h => Bool.noConfusion h) rfl <|
      q_not (.f rfl rfl) (.u rfl id) rfl <|
      q_or .n (.t rfl) (.u rfl id) rfl <|
      q_move .n (.t rfl) rfl <|
      q_move (.f rfl rfl) (.t rfl) rfl <|
      q_call0 (full := false) (.f rfl rfl) .f en_49 (.cons (.u rfl id) .nil) (.cons (.b (.a (.same rfl))) .nil) (fun hg => c_impl_ValidState b) rfl (fun h => Bool.noConfusion h) rfl <|
      q_not (.f rfl rfl) (.u rfl id) rfl <|
      q_or .n (.t rfl) (.u rfl id) rfl <|
      Lex.nil) ?_
  refine run_cond (.t rfl) rfl (fun h4 => ?_) (fun h4 => ?_)
  · try simp only [Bool.and_eq_true, Bool.or_eq_true, Bool.not_eq_true', Bool.and_eq_false_iff, Bool.or_eq_false_iff, Bool.not_eq_false', decide_eq_true_eq, decide_eq_false_iff_not, beq_iff_eq, bne_iff_ne, beq_eq_false_iff_ne, bne_eq_false_iff_eq, Bool.true_and, ne_eq, Decidable.not_not, Int.not_lt, Int.not_le, Nat.not_lt, Nat.not_le, strB_nil, strB_nil', strB_nnil, strB_nnil'] at h4
    try have hf0h4 := state_l24I h4
    try have hf1h4 := state_l24I h4.1
    try have hf2h4 := state_l24I h4.2
    try have hf3h4 := state_l24I h4.1.1
    try have hf4h4 := state_l24I h4.1.2
    try have hf5h4 := state_l24I h4.2.1
    try have hf6h4 := state_l24I h4.2.2
    refine run_seq ?_
    refine run_region (q_assign .n (.c rfl) rfl <|
        q_assign .n (.c rfl) rfl <|
        Lex.nil) ?_
    refine run_sub (sub_adopt (t := 6) (l := 200) (el := 9) (sz := 1) rfl rfl) ?_
    exact run_ret [(100, 200)] (.cons (.t rfl rfl) (.cons (.t rfl rfl) .nil)) (by first | rfl | (simp only [put_len]; rfl)) ⟨rfl, trivial⟩ rfl
  · try simp only [Bool.and_eq_true, Bool.or_eq_true, Bool.not_eq_true', Bool.and_eq_false_iff, Bool.or_eq_false_iff, Bool.not_eq_false', decide_eq_true_eq, decide_eq_false_iff_not, beq_iff_eq, bne_iff_ne, beq_eq_false_iff_ne, bne_eq_false_iff_eq, Bool.true_and, ne_eq, Decidable.not_not, Int.not_lt, Int.not_le, Nat.not_lt, Nat.not_le, strB_nil, strB_nil', strB_nnil, strB_nnil'] at h4
    try have hf0h4 := state_l24I h4
    try have hf1h4 := state_l24I h4.1
    try have hf2h4 := state_l24I h4.2
    try have hf3h4 := state_l24I h4.1.1
    try have hf4h4 := state_l24I h4.1.2
    try have hf5h4 := state_l24I h4.2.1
    try have hf6h4 := state_l24I h4.2.2
    refine run_skip ?_
    refine run_seq ?_
    refine run_region (q_move .n (.t rfl) rfl <|
        q_move .n (.t rfl) rfl <|
        q_move .n (.t rfl) rfl <|
        q_callM (full := false) [] [(100, 201)] .n rfl .f en_50 (.cons (.t rfl) (.cons (.t rfl) (.cons (.t rfl) .nil))) (.cons (.b (.a (.same rfl))) (.cons (.b (.a (.same rfl))) (.cons (.b (.a (.same rfl))) .nil))) (c_impl_conflictsOf base a b (by omega) (by omega) (by omega)) trivial rfl rfl (fun h => Bool.noConfusion h) (fun h => Bool.noConfusion h) rfl <|
        q_assign .n (.t rfl) rfl <|
        q_assign .n (.c rfl) rfl <|
        Lex.nil) ?_
    exact run_ret [(100, 201)] (.cons (.t rfl rfl) (.cons (.t rfl rfl) .nil)) (by first | rfl | (simp only [put_len]; rfl)) ⟨rfl, trivial⟩ rfl

/-! ### spec_l00In -/
theorem c_spec_l00In (n_ : Int) (low : Int) (high : Int) : Con Try.prog 82 [.int .i64 n_, .int .i64 low, .int .i64 high] [] (.bool (m_spec_l00In n_ low high)) ([]) := by
  refine con_intro (out := fun r : Bool => ((.bool r : V), ([] : List (Nat × Option O)))) (r := (m_spec_l00In n_ low high)) Try.func82 rfl Try.ntmps82 rfl ?_
  refine run_seq ?_
  refine run_region (q_assign .n (.c rfl) rfl <|
      Lex.nil) ?_
  refine run_seq ?_
  refine run_region (q_move .n (.t rfl) rfl <|
      q_move .n (.t rfl) rfl <|
      q_int .n (.t rfl) (.t rfl) rfl rfl <|
      q_move .n (.t rfl) rfl <|
      q_move (.t rfl rfl) (.t rfl) rfl <|
      q_move (.t rfl rfl) (.t rfl) rfl <|
      q_int (.t rfl rfl) (.u rfl id) (.u rfl id) rfl rfl <|
      q_and .n (.t rfl) (.u rfl id) rfl <|
      q_assign .n (.t rfl) rfl <|
      Lex.nil) ?_
  exact run_ret [] (.cons (.t rfl rfl) .nil) rfl trivial rfl

/-! ### spec_l01Small -/
theorem c_spec_l01Small (c_ : Int) : Con Try.prog 133 [.int .u8 c_] [] (.bool (m_spec_l01Small c_)) ([]) := by
  refine con_intro (out := fun r : Bool => ((.bool r : V), ([] : List (Nat × Option O)))) (r := (m_spec_l01Small c_)) Try.func133 rfl Try.ntmps133 rfl ?_
  refine run_seq ?_
  refine run_region (q_assign .n (.c rfl) rfl <|
      Lex.nil) ?_
  refine run_seq ?_
  refine run_region (q_move .n (.t rfl) rfl <|
      q_int .n (.t rfl) (.c rfl) rfl rfl <|
      q_move .n (.t rfl) rfl <|
      q_move (.t rfl rfl) (.t rfl) rfl <|
      q_int (.t rfl rfl) (.u rfl id) (.c rfl) rfl rfl <|
      q_and .n (.t rfl) (.u rfl id) rfl <|
      q_assign .n (.t rfl) rfl <|
      Lex.nil) ?_
  exact run_ret [] (.cons (.t rfl rfl) .nil) rfl trivial rfl

/-! ### spec_l01Digit -/
theorem c_spec_l01Digit (c_ : Int) : Con Try.prog 134 [.int .u8 c_] [] (.bool (m_spec_l01Digit c_)) ([]) := by
  refine con_intro (out := fun r : Bool => ((.bool r : V), ([] : List (Nat × Option O)))) (r := (m_spec_l01Digit c_)) Try.func134 rfl Try.ntmps134 rfl ?_
  refine run_seq ?_
  refine run_region (q_assign .n (.c rfl) rfl <|
      Lex.nil) ?_
  refine run_seq ?_
  refine run_region (q_move .n (.t rfl) rfl <|
      q_int .n (.t rfl) (.c rfl) rfl rfl <|
      q_move .n (.t rfl) rfl <|
      q_move (.t rfl rfl) (.t rfl) rfl <|
      q_int (.t rfl rfl) (.u rfl id) (.c rfl) rfl rfl <|
      q_and .n (.t rfl) (.u rfl id) rfl <|
      q_assign .n (.t rfl) rfl <|
      Lex.nil) ?_
  exact run_ret [] (.cons (.t rfl rfl) .nil) rfl trivial rfl

/-! ### spec_l01Name -/
theorem c_spec_l01Name (s_ : List UInt8) : Con Try.prog 121 [.str s_] [] (.bool (m_spec_l01Name s_)) ([]) := by
  refine con_intro (out := fun r : Bool => ((.bool r : V), ([] : List (Nat × Option O)))) (r := (m_spec_l01Name s_)) Try.func121 rfl Try.ntmps121 rfl ?_
  refine run_seq ?_
  refine run_region (q_assign .n (.c rfl) rfl <|
      Lex.nil) ?_
  refine run_seq ?_
  refine run_seq ?_
  refine run_region (q_move .n (.t rfl) rfl <|
      q_strcmp .n (.t rfl) (.c rfl) rfl rfl <|
      q_move .n (.t rfl) rfl <|
      q_move (.f rfl rfl) (.t rfl) rfl <|
      q_len (.f rfl rfl) (.u rfl id) rfl rfl st_9 rfl <|
      q_int (.f rfl rfl) (.u rfl id) (.c rfl) rfl rfl <|
      q_or .n (.t rfl) (.u rfl id) rfl <|
      q_move .n (.t rfl) rfl <|
      q_move (.f rfl rfl) (.t rfl) rfl <|
      q_strat (.f rfl rfl) (.u rfl id) (.c rfl) st_9 (fun hg => by simp only [Bool.and_eq_true, Bool.or_eq_true, Bool.not_eq_true', Bool.and_eq_false_iff, Bool.or_eq_false_iff, Bool.not_eq_false', decide_eq_true_eq, decide_eq_false_iff_not, beq_iff_eq, bne_iff_ne, beq_eq_false_iff_ne, bne_eq_false_iff_eq, Bool.true_and, ne_eq, Decidable.not_not, Int.not_lt, Int.not_le, Nat.not_lt, Nat.not_le, strB_nil, strB_nil', strB_nnil, strB_nnil'] at hg; omega) rfl <|
      q_call0 (full := false) (.f rfl rfl) .f en_133 (.cons (.u rfl id) .nil) (.cons (.b (.a (.same rfl))) .nil) (fun hg => c_spec_l01Small (((s_.getD (0 : Int).toNat 0).toNat : Nat) : Int)) rfl (fun h => Bool.noConfusion h) rfl <|
      q_not (.f rfl rfl) (.u rfl id) rfl <|
      q_or .n (.t rfl) (.u rfl id) rfl <|
      Lex.nil) ?_
  refine run_cond (.t rfl) rfl (fun h1 => ?_) (fun h1 => ?_)
  · try simp only [Bool.and_eq_true, Bool.or_eq_true, Bool.not_eq_true', Bool.and_eq_false_iff, Bool.or_eq_false_iff, Bool.not_eq_false', decide_eq_true_eq, decide_eq_false_iff_not, beq_iff_eq, bne_iff_ne, beq_eq_false_iff_ne, bne_eq_false_iff_eq, Bool.true_and, ne_eq, Decidable.not_not, Int.not_lt, Int.not_le, Nat.not_lt, Nat.not_le, strB_nil, strB_nil', strB_nnil, strB_nnil'] at h1
    refine run_seq ?_
    refine run_region (q_assign .n (.c rfl) rfl <|
        Lex.nil) ?_
    exact run_ret [] (.cons (.t rfl rfl) .nil) rfl trivial rfl
  · try simp only [Bool.and_eq_true, Bool.or_eq_true, Bool.not_eq_true', Bool.and_eq_false_iff, Bool.or_eq_false_iff, Bool.not_eq_false', decide_eq_true_eq, decide_eq_false_iff_not, beq_iff_eq, bne_iff_ne, beq_eq_false_iff_ne, bne_eq_false_iff_eq, Bool.true_and, ne_eq, Decidable.not_not, Int.not_lt, Int.not_le, Nat.not_lt, Nat.not_le, strB_nil, strB_nil', strB_nnil, strB_nnil'] at h1
    refine run_skip ?_
    refine run_seq ?_
    refine run_seq ?_
    refine run_region (q_assign .n (.c rfl) rfl <|
        Lex.nil) ?_
    refine run_block ?_
    refine run_LOOP (m_spec_l01Name_b1 s_) _ _ _ rfl (fun (x1 : Int) => 0 ≤ x1 ∧ x1 ≤ (s_.length : Int)) (fun x1 => 0 ≤ x1 ∧ x1 ≤ (s_.length : Int) ∧ (s_.length : Int) ≤ x1) (fun x1 => ((s_.length : Int) - x1 : Int).toNat) (fun x1 => ⟨[(0, some (true, .str s_)), (3, some (true, .int .i64 x1))], []⟩) (fun x1 => ⟨[], []⟩) ⟨by omega, by omega⟩ (by omega) (sub_of [] ⟨rfl, rfl, trivial⟩ trivial rfl) ?_ ?_
    · intro x1 i6
      obtain ⟨e7, e8, e9⟩ := i6
      try dsimp only at *
      refine run_seq ?_
      refine run_region (q_assign .n (.c rfl) rfl <|
          Lex.nil) ?_
      exact run_ret [] (.cons (.t rfl rfl) .nil) rfl trivial rfl
    · intro rec1 k1 hk2 x1 i3
      obtain ⟨e10, e11⟩ := i3
      try dsimp only at *
      refine run_seq ?_
      refine run_seq ?_
      refine run_region (q_move .n (.t rfl) rfl <|
          q_move .n (.t rfl) rfl <|
          q_len .n (.t rfl) rfl rfl st_9 rfl <|
          q_int .n (.t rfl) (.t rfl) rfl rfl <|
          Lex.nil) ?_
      refine run_cond (.t rfl) rfl (fun h4 => ?_) (fun h4 => ?_)
      · try simp only [Bool.and_eq_true, Bool.or_eq_true, Bool.not_eq_true', Bool.and_eq_false_iff, Bool.or_eq_false_iff, Bool.not_eq_false', decide_eq_true_eq, decide_eq_false_iff_not, beq_iff_eq, bne_iff_ne, beq_eq_false_iff_ne, bne_eq_false_iff_eq, Bool.true_and, ne_eq, Decidable.not_not, Int.not_lt, Int.not_le, Nat.not_lt, Nat.not_le, strB_nil, strB_nil', strB_nnil, strB_nnil'] at h4
        refine run_skip ?_
        refine run_seq ?_
        refine run_block ?_
        refine run_seq ?_
        refine run_region (q_move .n (.t rfl) rfl <|
            q_move .n (.t rfl) rfl <|
            q_strat .n (.t rfl) (.t rfl) st_9 (fun _ => by omega) rfl <|
            q_call0 (full := false) .n .f en_133 (.cons (.t rfl) .nil) (.cons (.b (.a (.same rfl))) .nil) (fun hg => c_spec_l01Small (((s_.getD x1.toNat 0).toNat : Nat) : Int)) rfl (fun h => Bool.noConfusion h) rfl <|
            q_not .n (.t rfl) rfl <|
            q_move .n (.t rfl) rfl <|
            q_move (.t rfl rfl) (.t rfl) rfl <|
            q_move (.t rfl rfl) (.t rfl) rfl <|
            q_strat (.t rfl rfl) (.u rfl id) (.u rfl id) st_9 (fun hg => by simp only [Bool.and_eq_true, Bool.or_eq_true, Bool.not_eq_true', Bool.and_eq_false_iff, Bool.or_eq_false_iff, Bool.not_eq_false', decide_eq_true_eq, decide_eq_false_iff_not, beq_iff_eq, bne_iff_ne, beq_eq_false_iff_ne, bne_eq_false_iff_eq, Bool.true_and, ne_eq, Decidable.not_not, Int.not_lt, Int.not_le, Nat.not_lt, Nat.not_le, strB_nil, strB_nil', strB_nnil, strB_nnil'] at hg; omega) rfl <|
            q_call0 (full := false) (.t rfl rfl) .f en_134 (.cons (.u rfl id) .nil) (.cons (.b (.a (.same rfl))) .nil) (fun hg => c_spec_l01Digit (((s_.getD x1.toNat 0).toNat : Nat) : Int)) rfl (fun h => Bool.noConfusion h) rfl <|
            q_not (.t rfl rfl) (.u rfl id) rfl <|
            q_and .n (.t rfl) (.u rfl id) rfl <|
            Lex.nil) ?_
        refine run_cond (.t rfl) rfl (fun h5 => ?_) (fun h5 => ?_)
        · try simp only [Bool.and_eq_true, Bool.or_eq_true, Bool.not_eq_true', Bool.and_eq_false_iff, Bool.or_eq_false_iff, Bool.not_eq_false', decide_eq_true_eq, decide_eq_false_iff_not, beq_iff_eq, bne_iff_ne, beq_eq_false_iff_ne, bne_eq_false_iff_eq, Bool.true_and, ne_eq, Decidable.not_not, Int.not_lt, Int.not_le, Nat.not_lt, Nat.not_le, strB_nil, strB_nil', strB_nnil, strB_nnil'] at h5
          refine run_seq ?_
          refine run_region (q_assign .n (.c rfl) rfl <|
              Lex.nil) ?_
          exact run_ret [] (.cons (.t rfl rfl) .nil) rfl trivial rfl
        · try simp only [Bool.and_eq_true, Bool.or_eq_true, Bool.not_eq_true', Bool.and_eq_false_iff, Bool.or_eq_false_iff, Bool.not_eq_false', decide_eq_true_eq, decide_eq_false_iff_not, beq_iff_eq, bne_iff_ne, beq_eq_false_iff_ne, bne_eq_false_iff_eq, Bool.true_and, ne_eq, Decidable.not_not, Int.not_lt, Int.not_le, Nat.not_lt, Nat.not_le, strB_nil, strB_nil', strB_nnil, strB_nnil'] at h5
          refine run_skip ?_
          refine run_endB ?_
          refine run_region (q_move .n (.t rfl) rfl <|
              q_add .n (.t rfl) (.c rfl) (fun _ => by omega) rfl <|
              q_assign .n (.t rfl) rfl <|
              Lex.nil) ?_
          exact run_again (x1 + 1) ⟨by omega, by omega⟩ (by omega) (sub_of [] ⟨rfl, rfl, trivial⟩ trivial rfl)
      · try simp only [Bool.and_eq_true, Bool.or_eq_true, Bool.not_eq_true', Bool.and_eq_false_iff, Bool.or_eq_false_iff, Bool.not_eq_false', decide_eq_true_eq, decide_eq_false_iff_not, beq_iff_eq, bne_iff_ne, beq_eq_false_iff_ne, bne_eq_false_iff_eq, Bool.true_and, ne_eq, Decidable.not_not, Int.not_lt, Int.not_le, Nat.not_lt, Nat.not_le, strB_nil, strB_nil', strB_nnil, strB_nnil'] at h4
        refine run_exit rfl ?_
        exact run_cont hk2 x1 ⟨by omega, by omega, by omega⟩ (sub_of [] trivial trivial rfl)

/-! ### spec_l27Setting -/
theorem c_spec_l27Setting (e : gSetting) : Con Try.prog 99 [.rp [.str e.Name, .int .i64 e.Value]] [] (.bool (m_spec_l27Setting e)) ([]) := by
  refine con_intro (out := fun r : Bool => ((.bool r : V), ([] : List (Nat × Option O)))) (r := (m_spec_l27Setting e)) Try.func99 rfl Try.ntmps99 rfl ?_
  refine run_seq ?_
  refine run_region (q_assign .n (.c rfl) rfl <|
      Lex.nil) ?_
  refine run_seq ?_
  refine run_region (q_move .n (.t rfl) rfl <|
      q_nilc_ro .n (.t rfl) rfl <|
      q_fld_ro .n (.t rfl) fo_100_0 rfl <|
      q_ld1_ro .n (.t rfl) rfl ic_9 rfl <|
      q_call0 (full := false) .n .f en_121 (.cons (.t rfl) .nil) (.cons (.b (.a (.same rfl))) .nil) (fun hg => c_spec_l01Name e.Name) rfl (fun h => Bool.noConfusion h) rfl <|
      q_move .n (.t rfl) rfl <|
      q_move (.t rfl rfl) (.t rfl) rfl <|
      q_nilc_ro (.t rfl rfl) (.u rfl id) rfl <|
      q_fld_ro (.t rfl rfl) (.u rfl id) fo_100_1 rfl <|
      q_ld1_ro (.t rfl rfl) (.u rfl id) rfl ic_2 rfl <|
      q_call0 (full := false) (.t rfl rfl) .f en_82 (.cons (.u rfl id) (.cons (.c rfl) (.cons (.c rfl) .nil))) (.cons (.b (.a (.same rfl))) (.cons (.b (.a (.same rfl))) (.cons (.b (.a (.same rfl))) .nil))) (fun hg => c_spec_l00In e.Value 0 1000) rfl (fun h => Bool.noConfusion h) rfl <|
      q_and .n (.t rfl) (.u rfl id) rfl <|
      q_assign .n (.t rfl) rfl <|
      Lex.nil) ?_
  exact run_ret [] (.cons (.t rfl rfl) .nil) rfl trivial rfl


end Go.Proofs.Ytlbpjgeoaiiamaa
