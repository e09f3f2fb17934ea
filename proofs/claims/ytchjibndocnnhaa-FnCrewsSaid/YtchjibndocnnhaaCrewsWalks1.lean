/-
  THE WALKS: each Go function computes its model. Conditions: as each theorem states them (hp1, hp2 ..).
-/
import Derived.Test.YtchjibndocnnhaaCrewsPlain27
import Derived.Test.YtchjibndocnnhaaProg
import Derived.Test.YtchjibndocnnhaaEngP
import Derived.Test.YtchjibndocnnhaaEngQ
import Derived.Test.YtchjibndocnnhaaEngR
import Derived.Test.YtchjibndocnnhaaEngU
set_option linter.unusedVariables false
set_option linter.unusedSimpArgs false
set_option linter.unusedSectionVars false
set_option linter.unnecessarySimpa false
namespace Go.Proofs.Ytchjibndocnnhaa
open Go Go.RowKit Go.Proofs Go.Proofs.Ytchjibndocnnhaa.E
theorem st_9 : isStr Try.prog 9 = true := by kernel_rfl
theorem en_130 : entB Try.prog 130 = true := by kernel_rfl
theorem fo_66_0 : fldOff Try.prog 66 0 = some 0 := by kernel_rfl
theorem ic_9 : isCell Try.prog 9 = true := by kernel_rfl
theorem en_109 : entB Try.prog 109 = true := by kernel_rfl
theorem fo_66_1 : fldOff Try.prog 66 1 = some 1 := by kernel_rfl
theorem ic_2 : isCell Try.prog 2 = true := by kernel_rfl
theorem en_85 : entB Try.prog 85 = true := by kernel_rfl
theorem fo_66_2 : fldOff Try.prog 66 2 = some 2 := by kernel_rfl
theorem fo_66_3 : fldOff Try.prog 66 3 = some 3 := by kernel_rfl
theorem fo_127_0 : fldOff Try.prog 127 0 = some 0 := by kernel_rfl
theorem fo_127_1 : fldOff Try.prog 127 1 = some 1 := by kernel_rfl
theorem en_134 : entB Try.prog 134 = true := by kernel_rfl
theorem fo_127_2 : fldOff Try.prog 127 2 = some 2 := by kernel_rfl
theorem fo_127_3 : fldOff Try.prog 127 3 = some 3 := by kernel_rfl
theorem fo_127_4 : fldOff Try.prog 127 4 = some 4 := by kernel_rfl
theorem fo_127_5 : fldOff Try.prog 127 5 = some 5 := by kernel_rfl
theorem fo_127_6 : fldOff Try.prog 127 6 = some 6 := by kernel_rfl
theorem fo_33_0 : fldOff Try.prog 33 0 = some 0 := by kernel_rfl
theorem ag_33 : aggSz Try.prog 33 = some 2 := by kernel_rfl
theorem en_135 : entB Try.prog 135 = true := by kernel_rfl
theorem fo_33_1 : fldOff Try.prog 33 1 = some 1 := by kernel_rfl
theorem ic_31 : isCell Try.prog 31 = true := by kernel_rfl
theorem ss_31 : (slEl Try.prog 31).isSome = true := by kernel_rfl
theorem sl_31 : slEl Try.prog 31 = some (127, 7) := by kernel_rfl
theorem ag_127 : aggSz Try.prog 127 = some 7 := by kernel_rfl
theorem zv_127 : zeroV Try.prog 127 = some (.st [.str ([] : List UInt8), .int .i64 0, .int .i64 0, .int .i64 0, .int .i64 0, .int .i64 0, .int .i64 0]) := by kernel_rfl
theorem ts_127 : tySz Try.prog 127 = some 7 := by kernel_rfl
theorem en_121 : entB Try.prog 121 = true := by kernel_rfl
theorem en_122 : entB Try.prog 122 = true := by kernel_rfl
theorem fmo : Try.prog.follows .mixedOrders = true := by kernel_rfl
theorem en_97 : entB Try.prog 97 = true := by kernel_rfl
theorem ss_36 : (slEl Try.prog 36).isSome = true := by kernel_rfl
theorem sl_36 : slEl Try.prog 36 = some (66, 4) := by kernel_rfl
theorem ag_66 : aggSz Try.prog 66 = some 4 := by kernel_rfl
theorem zv_66 : zeroV Try.prog 66 = some (.st [.str ([] : List UInt8), .int .i64 0, .int .i64 0, .int .i64 0]) := by kernel_rfl
theorem ts_66 : tySz Try.prog 66 = some 4 := by kernel_rfl
theorem en_78 : entB Try.prog 78 = true := by kernel_rfl
theorem en_99 : entB Try.prog 99 = true := by kernel_rfl
theorem ss_25 : (slEl Try.prog 25).isSome = true := by kernel_rfl
theorem sl_25 : slEl Try.prog 25 = some (2, 1) := by kernel_rfl
theorem en_124 : entB Try.prog 124 = true := by kernel_rfl
theorem en_131 : entB Try.prog 131 = true := by kernel_rfl
theorem en_100 : entB Try.prog 100 = true := by kernel_rfl
theorem en_111 : entB Try.prog 111 = true := by kernel_rfl
theorem en_112 : entB Try.prog 112 = true := by kernel_rfl
theorem en_73 : entB Try.prog 73 = true := by kernel_rfl
theorem en_84 : entB Try.prog 84 = true := by kernel_rfl
theorem si_25 : slInfo Try.prog 25 = some (2, 1, 8) := by kernel_rfl
theorem zv_2 : zeroV Try.prog 2 = some (.int .i64 0) := by kernel_rfl
theorem en_79 : entB Try.prog 79 = true := by kernel_rfl
theorem ts_2 : tySz Try.prog 2 = some 1 := by kernel_rfl
theorem en_74 : entB Try.prog 74 = true := by kernel_rfl
theorem en_75 : entB Try.prog 75 = true := by kernel_rfl
theorem si_36 : slInfo Try.prog 36 = some (66, 4, 40) := by kernel_rfl
theorem us_25 : Try.prog.underlying 25 = some (.slice 2) := by kernel_rfl
theorem fo_83_3 : fldOff Try.prog 83 3 = some 4 := by kernel_rfl
theorem fo_83_4 : fldOff Try.prog 83 4 = some 5 := by kernel_rfl
theorem ic_25 : isCell Try.prog 25 = true := by kernel_rfl
theorem fo_83_5 : fldOff Try.prog 83 5 = some 6 := by kernel_rfl
theorem en_86 : entB Try.prog 86 = true := by kernel_rfl
theorem ts_25 : tySz Try.prog 25 = some 1 := by kernel_rfl
theorem fo_83_2 : fldOff Try.prog 83 2 = some 3 := by kernel_rfl
theorem ic_36 : isCell Try.prog 36 = true := by kernel_rfl
theorem fo_83_0 : fldOff Try.prog 83 0 = some 0 := by kernel_rfl
theorem fo_83_1 : fldOff Try.prog 83 1 = some 2 := by kernel_rfl
theorem en_81 : entB Try.prog 81 = true := by kernel_rfl
theorem en_58 : entB Try.prog 58 = true := by kernel_rfl
theorem en_49 : entB Try.prog 49 = true := by kernel_rfl
theorem en_47 : entB Try.prog 47 = true := by kernel_rfl
theorem en_48 : entB Try.prog 48 = true := by kernel_rfl
theorem zv_83 : zeroV Try.prog 83 = some (.st [.int .i64 0, .nls, .nls, .nls, .int .i64 0, .nls, .nls]) := by kernel_rfl
theorem pl_83 : places Try.prog 83 = some [(0, 2), (2, 1), (3, 1), (4, 1), (5, 1), (6, 1)] := by kernel_rfl
theorem ts_83 : tySz Try.prog 83 = some 7 := by kernel_rfl
theorem en_92 : entB Try.prog 92 = true := by kernel_rfl
theorem fo_95_4 : fldOff Try.prog 95 4 = some 5 := by kernel_rfl
theorem fo_95_2 : fldOff Try.prog 95 2 = some 3 := by kernel_rfl
theorem fo_95_0 : fldOff Try.prog 95 0 = some 0 := by kernel_rfl
theorem fo_95_1 : fldOff Try.prog 95 1 = some 2 := by kernel_rfl
theorem fo_95_3 : fldOff Try.prog 95 3 = some 4 := by kernel_rfl
theorem en_59 : entB Try.prog 59 = true := by kernel_rfl
theorem en_57 : entB Try.prog 57 = true := by kernel_rfl
theorem en_56 : entB Try.prog 56 = true := by kernel_rfl
theorem zv_95 : zeroV Try.prog 95 = some (.st [.int .i64 0, .nls, .nls, .nls, .int .i64 0, .nls]) := by kernel_rfl
theorem pl_95 : places Try.prog 95 = some [(0, 2), (2, 1), (3, 1), (4, 1), (5, 1)] := by kernel_rfl
theorem ts_95 : tySz Try.prog 95 = some 6 := by kernel_rfl
theorem ss_55 : (slEl Try.prog 55).isSome = true := by kernel_rfl
theorem zv_148 : zeroV Try.prog 148 = some (.st [.nls, .int .i64 0, .int .u64 0]) := by kernel_rfl
theorem pl_148 : places Try.prog 148 = some [(0, 1), (1, 1), (2, 1)] := by kernel_rfl
theorem fo_148_1 : fldOff Try.prog 148 1 = some 1 := by kernel_rfl
theorem ic_3 : isCell Try.prog 3 = true := by kernel_rfl
theorem fo_148_0 : fldOff Try.prog 148 0 = some 0 := by kernel_rfl
theorem ic_55 : isCell Try.prog 55 = true := by kernel_rfl
theorem sl_55 : slEl Try.prog 55 = some (5, 1) := by kernel_rfl
theorem ic_5 : isCell Try.prog 5 = true := by kernel_rfl
theorem cv_5_3 : cvInt Try.prog 5 3 = some .i64 := by kernel_rfl
theorem ts_3 : tySz Try.prog 3 = some 1 := by kernel_rfl
theorem fo_148_2 : fldOff Try.prog 148 2 = some 2 := by kernel_rfl
theorem ic_146 : isCell Try.prog 146 = true := by kernel_rfl
theorem cv_3_146 : cvInt Try.prog 3 146 = some .u64 := by kernel_rfl
theorem ts_146 : tySz Try.prog 146 = some 1 := by kernel_rfl
theorem cv_146_2 : cvInt Try.prog 146 2 = some .i64 := by kernel_rfl
theorem en_127 : entB Try.prog 127 = true := by kernel_rfl
theorem en_103 : entB Try.prog 103 = true := by kernel_rfl
theorem pl_127 : places Try.prog 127 = some [(0, 1), (1, 1), (2, 1), (3, 1), (4, 1), (5, 1), (6, 1)] := by kernel_rfl
theorem zv_33 : zeroV Try.prog 33 = some (.st [.int .i64 0, .nls]) := by kernel_rfl
theorem si_149 : slInfo Try.prog 149 = some (9, 1, 16) := by kernel_rfl
theorem zv_9 : zeroV Try.prog 9 = some (.str ([] : List UInt8)) := by kernel_rfl
theorem si_31 : slInfo Try.prog 31 = some (127, 7, 64) := by kernel_rfl
theorem pl_33 : places Try.prog 33 = some [(0, 1), (1, 1)] := by kernel_rfl
theorem ts_33 : tySz Try.prog 33 = some 2 := by kernel_rfl
theorem ss_149 : (slEl Try.prog 149).isSome = true := by kernel_rfl
theorem en_104 : entB Try.prog 104 = true := by kernel_rfl
theorem sl_149 : slEl Try.prog 149 = some (9, 1) := by kernel_rfl
theorem en_105 : entB Try.prog 105 = true := by kernel_rfl
theorem ts_31 : tySz Try.prog 31 = some 1 := by kernel_rfl
theorem en_68 : entB Try.prog 68 = true := by kernel_rfl
theorem en_69 : entB Try.prog 69 = true := by kernel_rfl
theorem pl_66 : places Try.prog 66 = some [(0, 1), (1, 1), (2, 1), (3, 1)] := by kernel_rfl
theorem en_120 : entB Try.prog 120 = true := by kernel_rfl
theorem en_90 : entB Try.prog 90 = true := by kernel_rfl
theorem en_128 : entB Try.prog 128 = true := by kernel_rfl
theorem en_106 : entB Try.prog 106 = true := by kernel_rfl
theorem en_132 : entB Try.prog 132 = true := by kernel_rfl
theorem en_133 : entB Try.prog 133 = true := by kernel_rfl
theorem en_116 : entB Try.prog 116 = true := by kernel_rfl
theorem en_62 : entB Try.prog 62 = true := by kernel_rfl
theorem en_107 : entB Try.prog 107 = true := by kernel_rfl
theorem en_70 : entB Try.prog 70 = true := by kernel_rfl
theorem en_71 : entB Try.prog 71 = true := by kernel_rfl
theorem cv_5_2 : cvInt Try.prog 5 2 = some .i64 := by kernel_rfl
theorem en_72 : entB Try.prog 72 = true := by kernel_rfl
theorem en_113 : entB Try.prog 113 = true := by kernel_rfl
theorem en_88 : entB Try.prog 88 = true := by kernel_rfl
theorem en_89 : entB Try.prog 89 = true := by kernel_rfl
theorem en_114 : entB Try.prog 114 = true := by kernel_rfl
theorem en_115 : entB Try.prog 115 = true := by kernel_rfl
theorem en_129 : entB Try.prog 129 = true := by kernel_rfl
theorem en_93 : entB Try.prog 93 = true := by kernel_rfl
theorem en_108 : entB Try.prog 108 = true := by kernel_rfl
theorem en_76 : entB Try.prog 76 = true := by kernel_rfl
theorem en_77 : entB Try.prog 77 = true := by kernel_rfl
theorem en_54 : entB Try.prog 54 = true := by kernel_rfl
theorem en_110 : entB Try.prog 110 = true := by kernel_rfl
theorem en_80 : entB Try.prog 80 = true := by kernel_rfl
theorem en_29 : entB Try.prog 29 = true := by kernel_rfl
theorem en_30 : entB Try.prog 30 = true := by kernel_rfl
theorem en_31 : entB Try.prog 31 = true := by kernel_rfl
theorem en_32 : entB Try.prog 32 = true := by kernel_rfl
theorem en_22 : entB Try.prog 22 = true := by kernel_rfl
theorem en_13 : entB Try.prog 13 = true := by kernel_rfl
theorem en_33 : entB Try.prog 33 = true := by kernel_rfl
theorem en_34 : entB Try.prog 34 = true := by kernel_rfl
theorem en_35 : entB Try.prog 35 = true := by kernel_rfl
theorem en_36 : entB Try.prog 36 = true := by kernel_rfl
theorem en_37 : entB Try.prog 37 = true := by kernel_rfl
theorem ub_4 : Try.prog.underlying 4 = some .bool := by kernel_rfl
theorem en_38 : entB Try.prog 38 = true := by kernel_rfl
theorem en_39 : entB Try.prog 39 = true := by kernel_rfl

/-! ### impl_within -/
theorem c_impl_within (n_ : Int) (low : Int) (high : Int) : Con Try.prog 85 [.int .i64 n_, .int .i64 low, .int .i64 high] [] (.bool (m_impl_within n_ low high)) ([]) := by
  refine con_intro (out := fun r : Bool => ((.bool r : V), ([] : List (Nat × Option O)))) (r := (m_impl_within n_ low high)) Try.func85 rfl Try.ntmps85 rfl ?_
  refine run_seq ?_
  refine run_region (q_assign .n (.c rfl) rfl <|
      Lex.nil) ?_
  refine run_seq ?_
  refine run_region (q_move .n (.t rfl) rfl <|
      q_move .n (.t rfl) rfl <|
      q_int .n (.t rfl) (.t rfl) rfl rfl <|
      q_move .n (.t rfl) rfl <|
      q_move (.t rfl rfl) (.t rfl) rfl <|
      q_move (.t rfl rfl) (.t rfl) rfl <|
      q_int (.t rfl rfl) (.u rfl id) (.u rfl id) rfl rfl <|
      q_and .n (.t rfl) (.u rfl id) rfl <|
      q_assign .n (.t rfl) rfl <|
      Lex.nil) ?_
  exact run_ret [] (.cons (.t rfl rfl) .nil) rfl trivial rfl

/-! ### impl_onlyNameBytes -/
theorem c_impl_onlyNameBytes (s_ : List UInt8) (hp1 : s_.length ≤ 10) : Con Try.prog 130 [.str s_] [] (.bool (m_impl_onlyNameBytes s_)) ([]) := by
  refine con_intro (out := fun r : Bool => ((.bool r : V), ([] : List (Nat × Option O)))) (r := (m_impl_onlyNameBytes s_)) Try.func130 rfl Try.ntmps130 rfl ?_
  refine run_seq ?_
  refine run_region (q_assign .n (.c rfl) rfl <|
      Lex.nil) ?_
  refine run_seq ?_
  refine run_seq ?_
  refine run_region (q_move .n (.t rfl) rfl <|
      q_len .n (.t rfl) rfl rfl st_9 rfl <|
      q_move .n (.c rfl) rfl <|
      Lex.nil) ?_
  refine run_block ?_
  refine run_LOOP (m_impl_onlyNameBytes_b1 s_) _ _ _ rfl (fun (x1 : Int) => 0 ≤ x1 ∧ x1 ≤ (s_.length : Int)) (fun x1 => 0 ≤ x1 ∧ x1 ≤ (s_.length : Int) ∧ (s_.length : Int) ≤ x1) (fun x1 => ((s_.length : Int) - x1 : Int).toNat) (fun x1 => ⟨[(0, some (true, .str s_)), (6, some (true, .int .i64 (s_.length : Int))), (7, some (true, .int .i64 x1))], []⟩) (fun x1 => ⟨[], []⟩) ⟨by omega, by omega⟩ (by omega) (sub_of [] ⟨rfl, rfl, rfl, trivial⟩ trivial rfl) ?_ ?_
  · intro x1 i5
    obtain ⟨e6, e7, e8⟩ := i5
    try dsimp only at *
    refine run_seq ?_
    refine run_region (q_assign .n (.c rfl) rfl <|
        Lex.nil) ?_
    exact run_ret [] (.cons (.t rfl rfl) .nil) rfl trivial rfl
  · intro rec1 k1 hk1 x1 i2
    obtain ⟨e9, e10⟩ := i2
    try dsimp only at *
    refine run_seq ?_
    refine run_region (q_int .n (.t rfl) (.t rfl) rfl rfl <|
        Lex.nil) ?_
    refine run_seq ?_
    refine run_cond (.t rfl) rfl (fun h3 => ?_) (fun h3 => ?_)
    · try simp only [Bool.and_eq_true, Bool.or_eq_true, Bool.not_eq_true', Bool.and_eq_false_iff, Bool.or_eq_false_iff, Bool.not_eq_false', decide_eq_true_eq, decide_eq_false_iff_not, beq_iff_eq, bne_iff_ne, beq_eq_false_iff_ne, bne_eq_false_iff_eq, Bool.true_and, ne_eq, Decidable.not_not, Int.not_lt, Int.not_le, Nat.not_lt, Nat.not_le, strB_nil, strB_nil', strB_nnil, strB_nnil'] at h3
      refine run_skip ?_
      refine run_seq ?_
      refine run_block ?_
      refine run_seq ?_
      refine run_region (q_move .n (.t rfl) rfl <|
          q_assign .n (.t rfl) rfl <|
          Lex.nil) ?_
      refine run_seq ?_
      refine run_region (q_move .n (.t rfl) rfl <|
          q_move .n (.t rfl) rfl <|
          q_strat .n (.t rfl) (.t rfl) st_9 (fun _ => by omega) rfl <|
          q_assign .n (.t rfl) rfl <|
          Lex.nil) ?_
      refine run_seq ?_
      refine run_region (q_move .n (.t rfl) rfl <|
          q_int .n (.t rfl) (.c rfl) rfl rfl <|
          q_move .n (.t rfl) rfl <|
          q_move (.f rfl rfl) (.t rfl) rfl <|
          q_int (.f rfl rfl) (.u rfl id) (.c rfl) rfl rfl <|
          q_or .n (.t rfl) (.u rfl id) rfl <|
          q_move .n (.t rfl) rfl <|
          q_move (.t rfl rfl) (.t rfl) rfl <|
          q_int (.t rfl rfl) (.u rfl id) (.c rfl) rfl rfl <|
          q_move (.t rfl rfl) (.u rfl id) rfl <|
          q_move (.f rfl rfl) (.t rfl) rfl <|
          q_int (.f rfl rfl) (.u rfl id) (.c rfl) rfl rfl <|
          q_or (.t rfl rfl) (.u rfl id) (.u rfl id) rfl <|
          q_and .n (.t rfl) (.u rfl id) rfl <|
          Lex.nil) ?_
      refine run_cond (.t rfl) rfl (fun h4 => ?_) (fun h4 => ?_)
      · try simp only [Bool.and_eq_true, Bool.or_eq_true, Bool.not_eq_true', Bool.and_eq_false_iff, Bool.or_eq_false_iff, Bool.not_eq_false', decide_eq_true_eq, decide_eq_false_iff_not, beq_iff_eq, bne_iff_ne, beq_eq_false_iff_ne, bne_eq_false_iff_eq, Bool.true_and, ne_eq, Decidable.not_not, Int.not_lt, Int.not_le, Nat.not_lt, Nat.not_le, strB_nil, strB_nil', strB_nnil, strB_nnil'] at h4
        refine run_seq ?_
        refine run_region (q_assign .n (.c rfl) rfl <|
            Lex.nil) ?_
        exact run_ret [] (.cons (.t rfl rfl) .nil) rfl trivial rfl
      · try simp only [Bool.and_eq_true, Bool.or_eq_true, Bool.not_eq_true', Bool.and_eq_false_iff, Bool.or_eq_false_iff, Bool.not_eq_false', decide_eq_true_eq, decide_eq_false_iff_not, beq_iff_eq, bne_iff_ne, beq_eq_false_iff_ne, bne_eq_false_iff_eq, Bool.true_and, ne_eq, Decidable.not_not, Int.not_lt, Int.not_le, Nat.not_lt, Nat.not_le, strB_nil, strB_nil', strB_nnil, strB_nnil'] at h4
        refine run_skip ?_
        refine run_endB ?_
        refine run_region (q_add .n (.t rfl) (.c rfl) (fun _ => by omega) rfl <|
            q_move .n (.t rfl) rfl <|
            Lex.nil) ?_
        exact run_again (x1 + 1) ⟨by omega, by omega⟩ (by omega) (sub_of [] ⟨rfl, rfl, rfl, trivial⟩ trivial rfl)
    · try simp only [Bool.and_eq_true, Bool.or_eq_true, Bool.not_eq_true', Bool.and_eq_false_iff, Bool.or_eq_false_iff, Bool.not_eq_false', decide_eq_true_eq, decide_eq_false_iff_not, beq_iff_eq, bne_iff_ne, beq_eq_false_iff_ne, bne_eq_false_iff_eq, Bool.true_and, ne_eq, Decidable.not_not, Int.not_lt, Int.not_le, Nat.not_lt, Nat.not_le, strB_nil, strB_nil', strB_nnil, strB_nnil'] at h3
      refine run_exit rfl ?_
      exact run_cont hk1 x1 ⟨by omega, by omega, by omega⟩ (sub_of [] trivial trivial rfl)

/-! ### impl_IsName -/
theorem c_impl_IsName (s_ : List UInt8) : Con Try.prog 109 [.str s_] [] (.bool (m_impl_IsName s_)) ([]) := by
  refine con_intro (out := fun r : Bool => ((.bool r : V), ([] : List (Nat × Option O)))) (r := (m_impl_IsName s_)) Try.func109 rfl Try.ntmps109 rfl ?_
  refine run_seq ?_
  refine run_region (q_assign .n (.c rfl) rfl <|
      Lex.nil) ?_
  refine run_seq ?_
  refine run_seq ?_
  refine run_region (q_move .n (.t rfl) rfl <|
      q_len .n (.t rfl) rfl rfl st_9 rfl <|
      q_int .n (.t rfl) (.c rfl) rfl rfl <|
      q_move .n (.t rfl) rfl <|
      q_move (.f rfl rfl) (.t rfl) rfl <|
      q_len (.f rfl rfl) (.u rfl id) rfl rfl st_9 rfl <|
      q_int (.f rfl rfl) (.u rfl id) (.c rfl) rfl rfl <|
      q_or .n (.t rfl) (.u rfl id) rfl <|
      q_move .n (.t rfl) rfl <|
      q_move (.f rfl rfl) (.t rfl) rfl <|
      q_strat (.f rfl rfl) (.u rfl id) (.c rfl) st_9 (fun hg => by simp only [Bool.and_eq_true, Bool.or_eq_true, Bool.not_eq_true', Bool.and_eq_false_iff, Bool.or_eq_false_iff, Bool.not_eq_false', decide_eq_true_eq, decide_eq_false_iff_not, beq_iff_eq, bne_iff_ne, beq_eq_false_iff_ne, bne_eq_false_iff_eq, Bool.true_and, ne_eq, Decidable.not_not, Int.not_lt, Int.not_le, Nat.not_lt, Nat.not_le, strB_nil, strB_nil', strB_nnil, strB_nnil'] at hg; omega) rfl <|
      q_int (.f rfl rfl) (.u rfl id) (.c rfl) rfl rfl <|
      q_or .n (.t rfl) (.u rfl id) rfl <|
      q_move .n (.t rfl) rfl <|
      q_move (.f rfl rfl) (.t rfl) rfl <|
      q_strat (.f rfl rfl) (.u rfl id) (.c rfl) st_9 (fun hg => by simp only [Bool.and_eq_true, Bool.or_eq_true, Bool.not_eq_true', Bool.and_eq_false_iff, Bool.or_eq_false_iff, Bool.not_eq_false', decide_eq_true_eq, decide_eq_false_iff_not, beq_iff_eq, bne_iff_ne, beq_eq_false_iff_ne, bne_eq_false_iff_eq, Bool.true_and, ne_eq, Decidable.not_not, Int.not_lt, Int.not_le, Nat.not_lt, Nat.not_le, strB_nil, strB_nil', strB_nnil, strB_nnil'] at hg; omega) rfl <|
      q_int (.f rfl rfl) (.u rfl id) (.c rfl) rfl rfl <|
      q_or .n (.t rfl) (.u rfl id) rfl <|
      Lex.nil) ?_
  refine run_cond (.t rfl) rfl (fun h1 => ?_) (fun h1 => ?_)
  · try simp only [Bool.and_eq_true, Bool.or_eq_true, Bool.not_eq_true', Bool.and_eq_false_iff, Bool.or_eq_false_iff, Bool.not_eq_false', decide_eq_true_eq, decide_eq_false_iff_not, beq_iff_eq, bne_iff_ne, beq_eq_false_iff_ne, bne_eq_false_iff_eq, Bool.true_and, ne_eq, Decidable.not_not, Int.not_lt, Int.not_le, Nat.not_lt, Nat.not_le, strB_nil, strB_nil', strB_nnil, strB_nnil'] at h1
    refine run_seq ?_
    refine run_region (q_assign .n (.c rfl) rfl <|
        Lex.nil) ?_
    exact run_ret [] (.cons (.t rfl rfl) .nil) rfl trivial rfl
  · try simp only [Bool.and_eq_true, Bool.or_eq_true, Bool.not_eq_true', Bool.and_eq_false_iff, Bool.or_eq_false_iff, Bool.not_eq_false', decide_eq_true_eq, decide_eq_false_iff_not, beq_iff_eq, bne_iff_ne, beq_eq_false_iff_ne, bne_eq_false_iff_eq, Bool.true_and, ne_eq, Decidable.not_not, Int.not_lt, Int.not_le, Nat.not_lt, Nat.not_le, strB_nil, strB_nil', strB_nnil, strB_nnil'] at h1
    refine run_skip ?_
    refine run_seq ?_
    refine run_region (q_move .n (.t rfl) rfl <|
        q_call0 (full := false) .n .f en_130 (.cons (.t rfl) .nil) (.cons (.b (.a (.same rfl))) .nil) (fun hg => c_impl_onlyNameBytes s_ (by omega)) rfl (fun h => Bool.noConfusion h) rfl <|
        q_assign .n (.t rfl) rfl <|
        Lex.nil) ?_
    exact run_ret [] (.cons (.t rfl rfl) .nil) rfl trivial rfl

/-! ### impl_Job_valid -/
theorem c_impl_Job_valid (t : gJob) : Con Try.prog 78 [.st [.str t.Id, .int .i64 t.Airway, .int .i64 t.People, .int .i64 t.Power]] [] (.bool (m_impl_Job_valid t)) ([]) := by
  refine con_intro (out := fun r : Bool => ((.bool r : V), ([] : List (Nat × Option O)))) (r := (m_impl_Job_valid t)) Try.func78 rfl Try.ntmps78 rfl ?_
  refine run_seq ?_
  refine run_region (q_box (l := 200) .n rfl (.t rfl) rfl rfl rfl rfl <|
      q_assign .n (.c rfl) rfl <|
      Lex.nil) ?_
  refine run_seq ?_
  refine run_region (q_fld_ow .n (.t rfl) fo_66_0 rfl <|
      q_ld1_ow .n (.t rfl) rfl (.inr rfl) (fun _ => rfl) rfl ic_9 rfl <|
      q_call0 (full := false) .n .f en_109 (.cons (.t rfl) .nil) (.cons (.b (.a (.same rfl))) .nil) (fun hg => c_impl_IsName t.Id) rfl (fun h => Bool.noConfusion h) rfl <|
      q_move .n (.t rfl) rfl <|
      q_fld_ow (.t rfl rfl) (.t rfl) fo_66_1 rfl <|
      q_ld1_ow (.t rfl rfl) (.u rfl id) rfl (.inr rfl) (fun _ => rfl) rfl ic_2 rfl <|
      q_call0 (full := false) (.t rfl rfl) .f en_85 (.cons (.u rfl id) (.cons (.c rfl) (.cons (.c rfl) .nil))) (.cons (.b (.a (.same rfl))) (.cons (.b (.a (.same rfl))) (.cons (.b (.a (.same rfl))) .nil))) (fun hg => c_impl_within t.Airway 0 23) rfl (fun h => Bool.noConfusion h) rfl <|
      q_and .n (.t rfl) (.u rfl id) rfl <|
      q_move .n (.t rfl) rfl <|
      q_fld_ow (.t rfl rfl) (.t rfl) fo_66_2 rfl <|
      q_ld1_ow (.t rfl rfl) (.u rfl id) rfl (.inr rfl) (fun _ => rfl) rfl ic_2 rfl <|
      q_call0 (full := false) (.t rfl rfl) .f en_85 (.cons (.u rfl id) (.cons (.c rfl) (.cons (.c rfl) .nil))) (.cons (.b (.a (.same rfl))) (.cons (.b (.a (.same rfl))) (.cons (.b (.a (.same rfl))) .nil))) (fun hg => c_impl_within t.People 1 40) rfl (fun h => Bool.noConfusion h) rfl <|
      q_and .n (.t rfl) (.u rfl id) rfl <|
      q_move .n (.t rfl) rfl <|
      q_fld_ow (.t rfl rfl) (.t rfl) fo_66_3 rfl <|
      q_ld1_ow (.t rfl rfl) (.u rfl id) rfl (.inr rfl) (fun _ => rfl) rfl ic_2 rfl <|
      q_call0 (full := false) (.t rfl rfl) .f en_85 (.cons (.u rfl id) (.cons (.c rfl) (.cons (.c rfl) .nil))) (.cons (.b (.a (.same rfl))) (.cons (.b (.a (.same rfl))) (.cons (.b (.a (.same rfl))) .nil))) (fun hg => c_impl_within t.Power 0 500) rfl (fun h => Bool.noConfusion h) rfl <|
      q_and .n (.t rfl) (.u rfl id) rfl <|
      q_assign .n (.t rfl) rfl <|
      Lex.nil) ?_
  exact run_ret [] (.cons (.t rfl rfl) .nil) rfl trivial rfl

/-! ### impl_junctionOk -/
theorem c_impl_junctionOk (n_ : Int) : Con Try.prog 134 [.int .i64 n_] [] (.bool (m_impl_junctionOk n_)) ([]) := by
  refine con_intro (out := fun r : Bool => ((.bool r : V), ([] : List (Nat × Option O)))) (r := (m_impl_junctionOk n_)) Try.func134 rfl Try.ntmps134 rfl ?_
  refine run_seq ?_
  refine run_region (q_assign .n (.c rfl) rfl <|
      Lex.nil) ?_
  refine run_seq ?_
  refine run_region (q_move .n (.t rfl) rfl <|
      q_call0 (full := false) .n .f en_85 (.cons (.t rfl) (.cons (.c rfl) (.cons (.c rfl) .nil))) (.cons (.b (.a (.same rfl))) (.cons (.b (.a (.same rfl))) (.cons (.b (.a (.same rfl))) .nil))) (fun hg => c_impl_within n_ 0 15) rfl (fun h => Bool.noConfusion h) rfl <|
      q_assign .n (.t rfl) rfl <|
      Lex.nil) ?_
  exact run_ret [] (.cons (.t rfl rfl) .nil) rfl trivial rfl

/-! ### impl_ValidAirway -/
theorem c_impl_ValidAirway (a : gAirway) : Con Try.prog 121 [.st [.str a.Id, .int .i64 a.From, .int .i64 a.To, .int .i64 a.Length, .int .i64 a.Section, .int .i64 a.Friction, .int .i64 a.Shock]] [] (.bool (m_impl_ValidAirway a)) ([]) := by
  refine con_intro (out := fun r : Bool => ((.bool r : V), ([] : List (Nat × Option O)))) (r := (m_impl_ValidAirway a)) Try.func121 rfl Try.ntmps121 rfl ?_
  refine run_seq ?_
  refine run_region (q_box (l := 200) .n rfl (.t rfl) rfl rfl rfl rfl <|
      q_assign .n (.c rfl) rfl <|
      Lex.nil) ?_
  refine run_seq ?_
  refine run_region (q_fld_ow .n (.t rfl) fo_127_0 rfl <|
      q_ld1_ow .n (.t rfl) rfl (.inr rfl) (fun _ => rfl) rfl ic_9 rfl <|
      q_call0 (full := false) .n .f en_109 (.cons (.t rfl) .nil) (.cons (.b (.a (.same rfl))) .nil) (fun hg => c_impl_IsName a.Id) rfl (fun h => Bool.noConfusion h) rfl <|
      q_move .n (.t rfl) rfl <|
      q_fld_ow (.t rfl rfl) (.t rfl) fo_127_1 rfl <|
      q_ld1_ow (.t rfl rfl) (.u rfl id) rfl (.inr rfl) (fun _ => rfl) rfl ic_2 rfl <|
      q_call0 (full := false) (.t rfl rfl) .f en_134 (.cons (.u rfl id) .nil) (.cons (.b (.a (.same rfl))) .nil) (fun hg => c_impl_junctionOk a.From) rfl (fun h => Bool.noConfusion h) rfl <|
      q_and .n (.t rfl) (.u rfl id) rfl <|
      q_move .n (.t rfl) rfl <|
      q_fld_ow (.t rfl rfl) (.t rfl) fo_127_2 rfl <|
      q_ld1_ow (.t rfl rfl) (.u rfl id) rfl (.inr rfl) (fun _ => rfl) rfl ic_2 rfl <|
      q_call0 (full := false) (.t rfl rfl) .f en_134 (.cons (.u rfl id) .nil) (.cons (.b (.a (.same rfl))) .nil) (fun hg => c_impl_junctionOk a.To) rfl (fun h => Bool.noConfusion h) rfl <|
      q_and .n (.t rfl) (.u rfl id) rfl <|
      q_move .n (.t rfl) rfl <|
      q_fld_ow (.t rfl rfl) (.t rfl) fo_127_1 rfl <|
      q_ld1_ow (.t rfl rfl) (.u rfl id) rfl (.inr rfl) (fun _ => rfl) rfl ic_2 rfl <|
      q_fld_ow (.t rfl rfl) (.t rfl) fo_127_2 rfl <|
      q_ld1_ow (.t rfl rfl) (.u rfl id) rfl (.inr rfl) (fun _ => rfl) rfl ic_2 rfl <|
      q_int (.t rfl rfl) (.u rfl id) (.u rfl id) rfl rfl <|
      q_and .n (.t rfl) (.u rfl id) rfl <|
      q_move .n (.t rfl) rfl <|
      q_fld_ow (.t rfl rfl) (.t rfl) fo_127_3 rfl <|
      q_ld1_ow (.t rfl rfl) (.u rfl id) rfl (.inr rfl) (fun _ => rfl) rfl ic_2 rfl <|
      q_call0 (full := false) (.t rfl rfl) .f en_85 (.cons (.u rfl id) (.cons (.c rfl) (.cons (.c rfl) .nil))) (.cons (.b (.a (.same rfl))) (.cons (.b (.a (.same rfl))) (.cons (.b (.a (.same rfl))) .nil))) (fun hg => c_impl_within a.Length 1 10000) rfl (fun h => Bool.noConfusion h) rfl <|
      q_and .n (.t rfl) (.u rfl id) rfl <|
      q_move .n (.t rfl) rfl <|
      q_fld_ow (.t rfl rfl) (.t rfl) fo_127_4 rfl <|
      q_ld1_ow (.t rfl rfl) (.u rfl id) rfl (.inr rfl) (fun _ => rfl) rfl ic_2 rfl <|
      q_call0 (full := false) (.t rfl rfl) .f en_85 (.cons (.u rfl id) (.cons (.c rfl) (.cons (.c rfl) .nil))) (.cons (.b (.a (.same rfl))) (.cons (.b (.a (.same rfl))) (.cons (.b (.a (.same rfl))) .nil))) (fun hg => c_impl_within a.Section 50 5000) rfl (fun h => Bool.noConfusion h) rfl <|
      q_and .n (.t rfl) (.u rfl id) rfl <|
      q_move .n (.t rfl) rfl <|
      q_fld_ow (.t rfl rfl) (.t rfl) fo_127_5 rfl <|
      q_ld1_ow (.t rfl rfl) (.u rfl id) rfl (.inr rfl) (fun _ => rfl) rfl ic_2 rfl <|
      q_call0 (full := false) (.t rfl rfl) .f en_85 (.cons (.u rfl id) (.cons (.c rfl) (.cons (.c rfl) .nil))) (.cons (.b (.a (.same rfl))) (.cons (.b (.a (.same rfl))) (.cons (.b (.a (.same rfl))) .nil))) (fun hg => c_impl_within a.Friction 1 1000) rfl (fun h => Bool.noConfusion h) rfl <|
      q_and .n (.t rfl) (.u rfl id) rfl <|
      q_move .n (.t rfl) rfl <|
      q_fld_ow (.t rfl rfl) (.t rfl) fo_127_6 rfl <|
      q_ld1_ow (.t rfl rfl) (.u rfl id) rfl (.inr rfl) (fun _ => rfl) rfl ic_2 rfl <|
      q_call0 (full := false) (.t rfl rfl) .f en_85 (.cons (.u rfl id) (.cons (.c rfl) (.cons (.c rfl) .nil))) (.cons (.b (.a (.same rfl))) (.cons (.b (.a (.same rfl))) (.cons (.b (.a (.same rfl))) .nil))) (fun hg => c_impl_within a.Shock 0 1000) rfl (fun h => Bool.noConfusion h) rfl <|
      q_and .n (.t rfl) (.u rfl id) rfl <|
      q_assign .n (.t rfl) rfl <|
      Lex.nil) ?_
  exact run_ret [] (.cons (.t rfl rfl) .nil) rfl trivial rfl

/-! ### impl_Mine_hasJunction -/
theorem c_impl_Mine_hasJunction (m_ : gMine) (n_ : Int) : Con Try.prog 135 [.st [.int .i64 m_.Junctions, .sl 7 (m_.Airways.map gAirway.v)], .int .i64 n_] [] (.bool (m_impl_Mine_hasJunction m_ n_)) ([]) := by
  refine con_intro (out := fun r : Bool => ((.bool r : V), ([] : List (Nat × Option O)))) (r := (m_impl_Mine_hasJunction m_ n_)) Try.func135 rfl Try.ntmps135 rfl ?_
  refine run_factS (t := 0) 1 rfl rfl fun hl => ?_
  have l1 := hl; clear hl; simp only [List.length_map] at l1
  refine run_seq ?_
  refine run_region (q_box (l := 200) .n rfl (.t rfl) rfl rfl rfl rfl <|
      q_assign .n (.c rfl) rfl <|
      Lex.nil) ?_
  refine run_seq ?_
  refine run_region (q_move .n (.t rfl) rfl <|
      q_fld_ow .n (.t rfl) fo_33_0 rfl <|
      q_ld1_ow .n (.t rfl) rfl (.inr rfl) (fun _ => rfl) rfl ic_2 rfl <|
      q_int .n (.t rfl) (.c rfl) rfl rfl <|
      q_call0 (full := false) .n .f en_85 (.cons (.t rfl) (.cons (.c rfl) (.cons (.t rfl) .nil))) (.cons (.b (.a (.same rfl))) (.cons (.b (.a (.same rfl))) (.cons (.b (.a (.same rfl))) .nil))) (fun hg => c_impl_within n_ 0 (IntKind.wrap .i64 (m_.Junctions - 1))) rfl (fun h => Bool.noConfusion h) rfl <|
      q_assign .n (.t rfl) rfl <|
      Lex.nil) ?_
  exact run_ret [] (.cons (.t rfl rfl) .nil) rfl trivial rfl

/-! ### impl_Mine_hasEnds -/
theorem c_impl_Mine_hasEnds (m_ : gMine) (a : gAirway) : Con Try.prog 122 [.st [.int .i64 m_.Junctions, .sl 7 (m_.Airways.map gAirway.v)], .st [.str a.Id, .int .i64 a.From, .int .i64 a.To, .int .i64 a.Length, .int .i64 a.Section, .int .i64 a.Friction, .int .i64 a.Shock]] [] (.bool (m_impl_Mine_hasEnds m_ a)) ([]) := by
  refine con_intro (out := fun r : Bool => ((.bool r : V), ([] : List (Nat × Option O)))) (r := (m_impl_Mine_hasEnds m_ a)) Try.func122 rfl Try.ntmps122 rfl ?_
  refine run_factS (t := 0) 1 rfl rfl fun hl => ?_
  have l1 := hl; clear hl; simp only [List.length_map] at l1
  refine run_seq ?_
  refine run_region (q_box (l := 200) .n rfl (.t rfl) rfl rfl rfl rfl <|
      q_box (l := 201) .n rfl (.t rfl) rfl rfl rfl rfl <|
      q_assign .n (.c rfl) rfl <|
      Lex.nil) ?_
  refine run_seq ?_
  refine run_region (q_ldN_ow .n (.t rfl) rfl (.inr rfl) ag_33 (fun _ => rfl) rfl rfl <|
      q_fld_ow .n (.t rfl) fo_127_1 rfl <|
      q_ld1_ow .n (.t rfl) rfl (.inr rfl) (fun _ => rfl) rfl ic_2 rfl <|
      q_call0 (full := false) .n .f en_135 (.cons (.t rfl) (.cons (.t rfl) .nil)) (.cons (.sts rfl) (.cons (.b (.a (.same rfl))) .nil)) (fun hg => c_impl_Mine_hasJunction m_ a.From) rfl (fun h => Bool.noConfusion h) rfl <|
      q_move .n (.t rfl) rfl <|
      q_ldN_ow (.t rfl rfl) (.t rfl) rfl (.inr rfl) ag_33 (fun _ => rfl) rfl rfl <|
      q_fld_ow (.t rfl rfl) (.t rfl) fo_127_2 rfl <|
      q_ld1_ow (.t rfl rfl) (.u rfl id) rfl (.inr rfl) (fun _ => rfl) rfl ic_2 rfl <|
      q_call0 (full := false) (.t rfl rfl) .f en_135 (.cons (.u rfl id) (.cons (.u rfl id) .nil)) (.cons (.sts rfl) (.cons (.b (.a (.same rfl))) .nil)) (fun hg => c_impl_Mine_hasJunction m_ a.To) rfl (fun h => Bool.noConfusion h) rfl <|
      q_and .n (.t rfl) (.u rfl id) rfl <|
      q_assign .n (.t rfl) rfl <|
      Lex.nil) ?_
  exact run_ret [] (.cons (.t rfl rfl) .nil) rfl trivial rfl

/-! ### impl_ValidMine -/
theorem c_impl_ValidMine (m_ : gMine) : Con Try.prog 97 [.st [.int .i64 m_.Junctions, .sl 7 (m_.Airways.map gAirway.v)]] [] (.bool (m_impl_ValidMine m_)) ([]) := by
  refine con_intro (out := fun r : Bool => ((.bool r : V), ([] : List (Nat × Option O)))) (r := (m_impl_ValidMine m_)) Try.func97 rfl Try.ntmps97 rfl ?_
  refine run_factS (t := 0) 1 rfl rfl fun hl => ?_
  have l1 := hl; clear hl; simp only [List.length_map] at l1
  refine run_seq ?_
  refine run_region (q_box (l := 200) .n rfl (.t rfl) rfl rfl rfl rfl <|
      q_assign .n (.c rfl) rfl <|
      Lex.nil) ?_
  refine run_seq ?_
  refine run_seq ?_
  refine run_region (q_fld_ow .n (.t rfl) fo_33_0 rfl <|
      q_ld1_ow .n (.t rfl) rfl (.inr rfl) (fun _ => rfl) rfl ic_2 rfl <|
      q_call0 (full := false) .n .f en_85 (.cons (.t rfl) (.cons (.c rfl) (.cons (.c rfl) .nil))) (.cons (.b (.a (.same rfl))) (.cons (.b (.a (.same rfl))) (.cons (.b (.a (.same rfl))) .nil))) (fun hg => c_impl_within m_.Junctions 1 16) rfl (fun h => Bool.noConfusion h) rfl <|
      q_not .n (.t rfl) rfl <|
      q_move .n (.t rfl) rfl <|
      q_fld_ow (.f rfl rfl) (.t rfl) fo_33_1 rfl <|
      q_ld1_ow (.f rfl rfl) (.u rfl id) rfl (.inr rfl) (fun _ => rfl) rfl ic_31 rfl <|
      q_len (.f rfl rfl) (.u rfl id) rfl len_map ss_31 rfl <|
      q_int (.f rfl rfl) (.u rfl id) (.c rfl) rfl rfl <|
      q_or .n (.t rfl) (.u rfl id) rfl <|
      Lex.nil) ?_
  refine run_cond (.t rfl) rfl (fun h2 => ?_) (fun h2 => ?_)
  · try simp only [Bool.and_eq_true, Bool.or_eq_true, Bool.not_eq_true', Bool.and_eq_false_iff, Bool.or_eq_false_iff, Bool.not_eq_false', decide_eq_true_eq, decide_eq_false_iff_not, beq_iff_eq, bne_iff_ne, beq_eq_false_iff_ne, bne_eq_false_iff_eq, Bool.true_and, ne_eq, Decidable.not_not, Int.not_lt, Int.not_le, Nat.not_lt, Nat.not_le, strB_nil, strB_nil', strB_nnil, strB_nnil'] at h2
    try have hf0h2 := within_imp h2
    try have hf1h2 := within_imp h2.1
    try have hf2h2 := within_imp h2.2
    try have hf3h2 := within_imp h2.1.1
    try have hf4h2 := within_imp h2.1.2
    try have hf5h2 := within_imp h2.2.1
    try have hf6h2 := within_imp h2.2.2
    refine run_seq ?_
    refine run_region (q_assign .n (.c rfl) rfl <|
        Lex.nil) ?_
    exact run_ret [] (.cons (.t rfl rfl) .nil) rfl trivial rfl
  · try simp only [Bool.and_eq_true, Bool.or_eq_true, Bool.not_eq_true', Bool.and_eq_false_iff, Bool.or_eq_false_iff, Bool.not_eq_false', decide_eq_true_eq, decide_eq_false_iff_not, beq_iff_eq, bne_iff_ne, beq_eq_false_iff_ne, bne_eq_false_iff_eq, Bool.true_and, ne_eq, Decidable.not_not, Int.not_lt, Int.not_le, Nat.not_lt, Nat.not_le, strB_nil, strB_nil', strB_nnil, strB_nnil'] at h2
    try have hf0h2 := within_imp h2
    try have hf1h2 := within_imp h2.1
    try have hf2h2 := within_imp h2.2
    try have hf3h2 := within_imp h2.1.1
    try have hf4h2 := within_imp h2.1.2
    try have hf5h2 := within_imp h2.2.1
    try have hf6h2 := within_imp h2.2.2
    refine run_skip ?_
    refine run_seq ?_
    refine run_seq ?_
    refine run_region (q_fld_ow .n (.t rfl) fo_33_1 rfl <|
        q_ld1_ow .n (.t rfl) rfl (.inr rfl) (fun _ => rfl) rfl ic_31 rfl <|
        q_len .n (.t rfl) rfl len_map ss_31 rfl <|
        q_move .n (.c rfl) rfl <|
        Lex.nil) ?_
    refine run_block ?_
    refine run_LOOP (m_impl_ValidMine_b1 m_) _ _ _ rfl (fun (x1 : Int) => 0 ≤ x1 ∧ x1 ≤ (m_.Airways.length : Int)) (fun x1 => 0 ≤ x1 ∧ x1 ≤ (m_.Airways.length : Int) ∧ (m_.Airways.length : Int) ≤ x1) (fun x1 => ((m_.Airways.length : Int) - x1 : Int).toNat) (fun x1 => ⟨[(1, some (true, .op 200 0 0 0)), (16, some (true, .sl 7 (m_.Airways.map gAirway.v))), (17, some (true, .int .i64 (m_.Airways.length : Int))), (18, some (true, .int .i64 x1))], [(200, some (.box 33 [.int .i64 m_.Junctions, .sl 7 (m_.Airways.map gAirway.v)]))]⟩) (fun x1 => ⟨[], []⟩) ⟨by omega, by omega⟩ (by omega) (sub_of [] ⟨rfl, rfl, rfl, rfl, trivial⟩ ⟨rfl, trivial⟩ rfl) ?_ ?_
    · intro x1 i7
      obtain ⟨e8, e9, e10⟩ := i7
      try dsimp only at *
      refine run_seq ?_
      refine run_region (q_assign .n (.c rfl) rfl <|
          Lex.nil) ?_
      exact run_ret [] (.cons (.t rfl rfl) .nil) rfl trivial rfl
    · intro rec1 k1 hk3 x1 i4
      obtain ⟨e11, e12⟩ := i4
      try dsimp only at *
      refine run_seq ?_
      refine run_region (q_int .n (.t rfl) (.t rfl) rfl rfl <|
          Lex.nil) ?_
      refine run_seq ?_
      refine run_cond (.t rfl) rfl (fun h5 => ?_) (fun h5 => ?_)
      · try simp only [Bool.and_eq_true, Bool.or_eq_true, Bool.not_eq_true', Bool.and_eq_false_iff, Bool.or_eq_false_iff, Bool.not_eq_false', decide_eq_true_eq, decide_eq_false_iff_not, beq_iff_eq, bne_iff_ne, beq_eq_false_iff_ne, bne_eq_false_iff_eq, Bool.true_and, ne_eq, Decidable.not_not, Int.not_lt, Int.not_le, Nat.not_lt, Nat.not_le, strB_nil, strB_nil', strB_nnil, strB_nnil'] at h5
        refine run_skip ?_
        refine run_seq ?_
        refine run_block ?_
        refine run_seq ?_
        refine run_region (q_move .n (.t rfl) rfl <|
            q_idx_rm .n (.t rfl) (.t rfl) sl_31 (fun _ => by omega) rfl <|
            q_ldN_ro .n (.t rfl) ag_127 rfl rfl rfl <|
            q_alloc (l := 201) .n rfl zv_127 rfl rfl <|
            q_assign .n (.t rfl) rfl <|
            q_st_boxm [.str (at' m_.Airways x1).Id, .int .i64 (at' m_.Airways x1).From, .int .i64 (at' m_.Airways x1).To, .int .i64 (at' m_.Airways x1).Length, .int .i64 (at' m_.Airways x1).Section, .int .i64 (at' m_.Airways x1).Friction, .int .i64 (at' m_.Airways x1).Shock] .n rfl (.t rfl) (.t rfl) rfl ts_127 rfl rfl <|
            Lex.nil) ?_
        refine run_seq ?_
        refine run_draw fmo (q_ldN_ow .n (.t rfl) rfl (.inr rfl) ag_127 (fun _ => rfl) rfl rfl <|
            q_call0 (full := false) .n .f en_121 (.cons (.t rfl) .nil) (.cons (.sts rfl) .nil) (fun hg => c_impl_ValidAirway (at' m_.Airways x1)) rfl (fun h => Bool.noConfusion h) rfl <|
            q_not .n (.t rfl) rfl <|
            q_move .n (.t rfl) rfl <|
            q_ldN_ow (.f rfl rfl) (.t rfl) rfl (.inr rfl) ag_33 (fun _ => rfl) rfl rfl <|
            q_ldN_ow (.f rfl rfl) (.t rfl) rfl (.inr rfl) ag_127 (fun _ => rfl) rfl rfl <|
            q_call0 (full := false) (.f rfl rfl) .f en_122 (.cons (.u rfl id) (.cons (.u rfl id) .nil)) (.cons (.sts rfl) (.cons (.sts rfl) .nil)) (fun hg => c_impl_Mine_hasEnds m_ (at' m_.Airways x1)) rfl (fun h => Bool.noConfusion h) rfl <|
            q_not (.f rfl rfl) (.u rfl id) rfl <|
            q_or .n (.t rfl) (.u rfl id) rfl <|
            q_move .n (.t rfl) rfl <|
            q_move (.f rfl rfl) (.t rfl) rfl <|
            q_int (.f rfl rfl) (.u rfl id) (.c rfl) rfl rfl <|
            q_move (.f rfl rfl) (.u rfl id) rfl <|
            q_fld_ow (.t rfl rfl) (.t rfl) fo_127_0 rfl <|
            q_ld1_ow (.t rfl rfl) (.u rfl id) rfl (.inr rfl) (fun _ => rfl) rfl ic_9 rfl <|
            q_fld_ow (.t rfl rfl) (.t rfl) fo_33_1 rfl <|
            q_ld1_ow (.t rfl rfl) (.u rfl id) rfl (.inr rfl) (fun _ => rfl) rfl ic_31 rfl <|
            q_move (.t rfl rfl) (.t rfl) rfl <|
            q_sub (.t rfl rfl) (.u rfl id) (.c rfl) (fun hg => by simp only [Bool.and_eq_true, Bool.or_eq_true, Bool.not_eq_true', Bool.and_eq_false_iff, Bool.or_eq_false_iff, Bool.not_eq_false', decide_eq_true_eq, decide_eq_false_iff_not, beq_iff_eq, bne_iff_ne, beq_eq_false_iff_ne, bne_eq_false_iff_eq, Bool.true_and, ne_eq, Decidable.not_not, Int.not_lt, Int.not_le, Nat.not_lt, Nat.not_le, strB_nil, strB_nil', strB_nnil, strB_nnil'] at hg; omega) rfl <|
            q_idx_rm (.t rfl rfl) (.u rfl id) (.u rfl id) sl_31 (fun hg => by simp only [Bool.and_eq_true, Bool.or_eq_true, Bool.not_eq_true', Bool.and_eq_false_iff, Bool.or_eq_false_iff, Bool.not_eq_false', decide_eq_true_eq, decide_eq_false_iff_not, beq_iff_eq, bne_iff_ne, beq_eq_false_iff_ne, bne_eq_false_iff_eq, Bool.true_and, ne_eq, Decidable.not_not, Int.not_lt, Int.not_le, Nat.not_lt, Nat.not_le, strB_nil, strB_nil', strB_nnil, strB_nnil'] at hg; omega) rfl <|
            q_fld_ro (.t rfl rfl) (.u rfl id) fo_127_0 rfl <|
            q_ld1_ro (.t rfl rfl) (.u rfl id) rfl ic_9 rfl <|
            q_strcmp (.t rfl rfl) (.u rfl id) (.u rfl id) rfl rfl <|
            q_and (.f rfl rfl) (.u rfl id) (.u rfl id) rfl <|
            q_or .n (.t rfl) (.u rfl id) rfl <|
            Lex.nil) (by kernel_rfl) ?_
        refine run_cond (.t rfl) rfl (fun h6 => ?_) (fun h6 => ?_)
        · try simp only [Bool.and_eq_true, Bool.or_eq_true, Bool.not_eq_true', Bool.and_eq_false_iff, Bool.or_eq_false_iff, Bool.not_eq_false', decide_eq_true_eq, decide_eq_false_iff_not, beq_iff_eq, bne_iff_ne, beq_eq_false_iff_ne, bne_eq_false_iff_eq, Bool.true_and, ne_eq, Decidable.not_not, Int.not_lt, Int.not_le, Nat.not_lt, Nat.not_le, strB_nil, strB_nil', strB_nnil, strB_nnil'] at h6
          refine run_seq ?_
          refine run_region (q_assign .n (.c rfl) rfl <|
              Lex.nil) ?_
          exact run_ret [] (.cons (.t rfl rfl) .nil) rfl trivial rfl
        · try simp only [Bool.and_eq_true, Bool.or_eq_true, Bool.not_eq_true', Bool.and_eq_false_iff, Bool.or_eq_false_iff, Bool.not_eq_false', decide_eq_true_eq, decide_eq_false_iff_not, beq_iff_eq, bne_iff_ne, beq_eq_false_iff_ne, bne_eq_false_iff_eq, Bool.true_and, ne_eq, Decidable.not_not, Int.not_lt, Int.not_le, Nat.not_lt, Nat.not_le, strB_nil, strB_nil', strB_nnil, strB_nnil'] at h6
          refine run_skip ?_
          refine run_endB ?_
          refine run_region (q_add .n (.t rfl) (.c rfl) (fun _ => by omega) rfl <|
              q_move .n (.t rfl) rfl <|
              Lex.nil) ?_
          exact run_again (x1 + 1) ⟨by omega, by omega⟩ (by omega) (sub_of [] ⟨rfl, rfl, rfl, rfl, trivial⟩ ⟨rfl, trivial⟩ rfl)
      · try simp only [Bool.and_eq_true, Bool.or_eq_true, Bool.not_eq_true', Bool.and_eq_false_iff, Bool.or_eq_false_iff, Bool.not_eq_false', decide_eq_true_eq, decide_eq_false_iff_not, beq_iff_eq, bne_iff_ne, beq_eq_false_iff_ne, bne_eq_false_iff_eq, Bool.true_and, ne_eq, Decidable.not_not, Int.not_lt, Int.not_le, Nat.not_lt, Nat.not_le, strB_nil, strB_nil', strB_nnil, strB_nnil'] at h5
        refine run_exit rfl ?_
        exact run_cont hk3 x1 ⟨by omega, by omega, by omega⟩ (sub_of [] trivial trivial rfl)

/-! ### impl_indexValid_impl_Airway -/
theorem c_impl_indexValid_impl_Airway (list : List gAirway) (k_ : Int) : Con Try.prog 99 [.sl 7 (list.map gAirway.v), .int .i64 k_] [] (.bool (m_impl_indexValid_impl_Airway list k_)) ([]) := by
  refine con_intro (out := fun r : Bool => ((.bool r : V), ([] : List (Nat × Option O)))) (r := (m_impl_indexValid_impl_Airway list k_)) Try.func99 rfl Try.ntmps99 rfl ?_
  refine run_fact (t := 0) rfl fun hl => ?_
  have l1 := hl; clear hl; simp only [List.length_map] at l1
  refine run_seq ?_
  refine run_region (q_assign .n (.c rfl) rfl <|
      Lex.nil) ?_
  refine run_seq ?_
  refine run_region (q_move .n (.t rfl) rfl <|
      q_move .n (.t rfl) rfl <|
      q_len .n (.t rfl) rfl len_map ss_31 rfl <|
      q_sub .n (.t rfl) (.c rfl) (fun _ => by omega) rfl <|
      q_call0 (full := false) .n .f en_85 (.cons (.t rfl) (.cons (.c rfl) (.cons (.t rfl) .nil))) (.cons (.b (.a (.same rfl))) (.cons (.b (.a (.same rfl))) (.cons (.b (.a (.same rfl))) .nil))) (fun hg => c_impl_within k_ 0 ((list.length : Int) - 1)) rfl (fun h => Bool.noConfusion h) rfl <|
      q_assign .n (.t rfl) rfl <|
      Lex.nil) ?_
  exact run_ret [] (.cons (.t rfl rfl) .nil) rfl trivial rfl

/-! ### impl_ValidJobs -/
theorem c_impl_ValidJobs (m_ : gMine) (list : List gJob) : Con Try.prog 73 [.st [.int .i64 m_.Junctions, .sl 7 (m_.Airways.map gAirway.v)], .sl 4 (list.map gJob.v)] [] (.bool (m_impl_ValidJobs m_ list)) ([]) := by
  refine con_intro (out := fun r : Bool => ((.bool r : V), ([] : List (Nat × Option O)))) (r := (m_impl_ValidJobs m_ list)) Try.func73 rfl Try.ntmps73 rfl ?_
  refine run_factS (t := 0) 1 rfl rfl fun hl => ?_
  have l1 := hl; clear hl; simp only [List.length_map] at l1
  refine run_fact (t := 1) rfl fun hl => ?_
  have l2 := hl; clear hl; simp only [List.length_map] at l2
  refine run_seq ?_
  refine run_region (q_box (l := 200) .n rfl (.t rfl) rfl rfl rfl rfl <|
      q_assign .n (.c rfl) rfl <|
      Lex.nil) ?_
  refine run_seq ?_
  refine run_seq ?_
  refine run_region (q_ldN_ow .n (.t rfl) rfl (.inr rfl) ag_33 (fun _ => rfl) rfl rfl <|
      q_call0 (full := false) .n .f en_97 (.cons (.t rfl) .nil) (.cons (.sts rfl) .nil) (fun hg => c_impl_ValidMine m_) rfl (fun h => Bool.noConfusion h) rfl <|
      q_not .n (.t rfl) rfl <|
      q_move .n (.t rfl) rfl <|
      q_move (.f rfl rfl) (.t rfl) rfl <|
      q_len (.f rfl rfl) (.u rfl id) rfl len_map ss_36 rfl <|
      q_int (.f rfl rfl) (.u rfl id) (.c rfl) rfl rfl <|
      q_or .n (.t rfl) (.u rfl id) rfl <|
      Lex.nil) ?_
  refine run_cond (.t rfl) rfl (fun h3 => ?_) (fun h3 => ?_)
  · try simp only [Bool.and_eq_true, Bool.or_eq_true, Bool.not_eq_true', Bool.and_eq_false_iff, Bool.or_eq_false_iff, Bool.not_eq_false', decide_eq_true_eq, decide_eq_false_iff_not, beq_iff_eq, bne_iff_ne, beq_eq_false_iff_ne, bne_eq_false_iff_eq, Bool.true_and, ne_eq, Decidable.not_not, Int.not_lt, Int.not_le, Nat.not_lt, Nat.not_le, strB_nil, strB_nil', strB_nnil, strB_nnil'] at h3
    try have hf0h3 := ValidMine_imp h3
    try have hf1h3 := ValidMine_imp h3.1
    try have hf2h3 := ValidMine_imp h3.2
    try have hf3h3 := ValidMine_imp h3.1.1
    try have hf4h3 := ValidMine_imp h3.1.2
    try have hf5h3 := ValidMine_imp h3.2.1
    try have hf6h3 := ValidMine_imp h3.2.2
    refine run_seq ?_
    refine run_region (q_assign .n (.c rfl) rfl <|
        Lex.nil) ?_
    exact run_ret [] (.cons (.t rfl rfl) .nil) rfl trivial rfl
  · try simp only [Bool.and_eq_true, Bool.or_eq_true, Bool.not_eq_true', Bool.and_eq_false_iff, Bool.or_eq_false_iff, Bool.not_eq_false', decide_eq_true_eq, decide_eq_false_iff_not, beq_iff_eq, bne_iff_ne, beq_eq_false_iff_ne, bne_eq_false_iff_eq, Bool.true_and, ne_eq, Decidable.not_not, Int.not_lt, Int.not_le, Nat.not_lt, Nat.not_le, strB_nil, strB_nil', strB_nnil, strB_nnil'] at h3
    try have hf0h3 := ValidMine_imp h3
    try have hf1h3 := ValidMine_imp h3.1
    try have hf2h3 := ValidMine_imp h3.2
    try have hf3h3 := ValidMine_imp h3.1.1
    try have hf4h3 := ValidMine_imp h3.1.2
    try have hf5h3 := ValidMine_imp h3.2.1
    try have hf6h3 := ValidMine_imp h3.2.2
    refine run_skip ?_
    refine run_seq ?_
    refine run_seq ?_
    refine run_region (q_move .n (.t rfl) rfl <|
        q_len .n (.t rfl) rfl len_map ss_36 rfl <|
        q_move .n (.c rfl) rfl <|
        Lex.nil) ?_
    refine run_block ?_
    refine run_LOOP (m_impl_ValidJobs_b1 m_ list) _ _ _ rfl (fun (x1 : Int) => 0 ≤ x1 ∧ x1 ≤ (list.length : Int)) (fun x1 => 0 ≤ x1 ∧ x1 ≤ (list.length : Int) ∧ (list.length : Int) ≤ x1) (fun x1 => ((list.length : Int) - x1 : Int).toNat) (fun x1 => ⟨[(1, some (true, .sl 4 (list.map gJob.v))), (2, some (true, .op 200 0 0 0)), (15, some (true, .sl 4 (list.map gJob.v))), (16, some (true, .int .i64 (list.length : Int))), (17, some (true, .int .i64 x1))], [(200, some (.box 33 [.int .i64 m_.Junctions, .sl 7 (m_.Airways.map gAirway.v)]))]⟩) (fun x1 => ⟨[], []⟩) ⟨by omega, by omega⟩ (by omega) (sub_of [] ⟨rfl, rfl, rfl, rfl, rfl, trivial⟩ ⟨rfl, trivial⟩ rfl) ?_ ?_
    · intro x1 i8
      obtain ⟨e9, e10, e11⟩ := i8
      try dsimp only at *
      refine run_seq ?_
      refine run_region (q_assign .n (.c rfl) rfl <|
          Lex.nil) ?_
      exact run_ret [] (.cons (.t rfl rfl) .nil) rfl trivial rfl
    · intro rec1 k1 hk4 x1 i5
      obtain ⟨e12, e13⟩ := i5
      try dsimp only at *
      refine run_seq ?_
      refine run_region (q_int .n (.t rfl) (.t rfl) rfl rfl <|
          Lex.nil) ?_
      refine run_seq ?_
      refine run_cond (.t rfl) rfl (fun h6 => ?_) (fun h6 => ?_)
      · try simp only [Bool.and_eq_true, Bool.or_eq_true, Bool.not_eq_true', Bool.and_eq_false_iff, Bool.or_eq_false_iff, Bool.not_eq_false', decide_eq_true_eq, decide_eq_false_iff_not, beq_iff_eq, bne_iff_ne, beq_eq_false_iff_ne, bne_eq_false_iff_eq, Bool.true_and, ne_eq, Decidable.not_not, Int.not_lt, Int.not_le, Nat.not_lt, Nat.not_le, strB_nil, strB_nil', strB_nnil, strB_nnil'] at h6
        refine run_skip ?_
        refine run_seq ?_
        refine run_block ?_
        refine run_seq ?_
        refine run_region (q_move .n (.t rfl) rfl <|
            q_idx_rm .n (.t rfl) (.t rfl) sl_36 (fun _ => by omega) rfl <|
            q_ldN_ro .n (.t rfl) ag_66 rfl rfl rfl <|
            q_alloc (l := 201) .n rfl zv_66 rfl rfl <|
            q_assign .n (.t rfl) rfl <|
            q_st_boxm [.str (at' list x1).Id, .int .i64 (at' list x1).Airway, .int .i64 (at' list x1).People, .int .i64 (at' list x1).Power] .n rfl (.t rfl) (.t rfl) rfl ts_66 rfl rfl <|
            Lex.nil) ?_
        refine run_seq ?_
        refine run_draw fmo (q_ldN_ow .n (.t rfl) rfl (.inr rfl) ag_66 (fun _ => rfl) rfl rfl <|
            q_call0 (full := false) .n .f en_78 (.cons (.t rfl) .nil) (.cons (.sts rfl) .nil) (fun hg => c_impl_Job_valid (at' list x1)) rfl (fun h => Bool.noConfusion h) rfl <|
            q_not .n (.t rfl) rfl <|
            q_move .n (.t rfl) rfl <|
            q_fld_ow (.f rfl rfl) (.t rfl) fo_33_1 rfl <|
            q_ld1_ow (.f rfl rfl) (.u rfl id) rfl (.inr rfl) (fun _ => rfl) rfl ic_31 rfl <|
            q_fld_ow (.f rfl rfl) (.t rfl) fo_66_1 rfl <|
            q_ld1_ow (.f rfl rfl) (.u rfl id) rfl (.inr rfl) (fun _ => rfl) rfl ic_2 rfl <|
            q_call0 (full := false) (.f rfl rfl) .f en_99 (.cons (.u rfl id) (.cons (.u rfl id) .nil)) (.cons (.b (.a (.same rfl))) (.cons (.b (.a (.same rfl))) .nil)) (fun hg => c_impl_indexValid_impl_Airway m_.Airways (at' list x1).Airway) rfl (fun h => Bool.noConfusion h) rfl <|
            q_not (.f rfl rfl) (.u rfl id) rfl <|
            q_or .n (.t rfl) (.u rfl id) rfl <|
            q_move .n (.t rfl) rfl <|
            q_move (.f rfl rfl) (.t rfl) rfl <|
            q_int (.f rfl rfl) (.u rfl id) (.c rfl) rfl rfl <|
            q_move (.f rfl rfl) (.u rfl id) rfl <|
            q_fld_ow (.t rfl rfl) (.t rfl) fo_66_0 rfl <|
            q_ld1_ow (.t rfl rfl) (.u rfl id) rfl (.inr rfl) (fun _ => rfl) rfl ic_9 rfl <|
            q_move (.t rfl rfl) (.t rfl) rfl <|
            q_move (.t rfl rfl) (.t rfl) rfl <|
            q_sub (.t rfl rfl) (.u rfl id) (.c rfl) (fun hg => by simp only [Bool.and_eq_true, Bool.or_eq_true, Bool.not_eq_true', Bool.and_eq_false_iff, Bool.or_eq_false_iff, Bool.not_eq_false', decide_eq_true_eq, decide_eq_false_iff_not, beq_iff_eq, bne_iff_ne, beq_eq_false_iff_ne, bne_eq_false_iff_eq, Bool.true_and, ne_eq, Decidable.not_not, Int.not_lt, Int.not_le, Nat.not_lt, Nat.not_le, strB_nil, strB_nil', strB_nnil, strB_nnil'] at hg; omega) rfl <|
            q_idx_rm (.t rfl rfl) (.u rfl id) (.u rfl id) sl_36 (fun hg => by simp only [Bool.and_eq_true, Bool.or_eq_true, Bool.not_eq_true', Bool.and_eq_false_iff, Bool.or_eq_false_iff, Bool.not_eq_false', decide_eq_true_eq, decide_eq_false_iff_not, beq_iff_eq, bne_iff_ne, beq_eq_false_iff_ne, bne_eq_false_iff_eq, Bool.true_and, ne_eq, Decidable.not_not, Int.not_lt, Int.not_le, Nat.not_lt, Nat.not_le, strB_nil, strB_nil', strB_nnil, strB_nnil'] at hg; omega) rfl <|
            q_fld_ro (.t rfl rfl) (.u rfl id) fo_66_0 rfl <|
            q_ld1_ro (.t rfl rfl) (.u rfl id) rfl ic_9 rfl <|
            q_strcmp (.t rfl rfl) (.u rfl id) (.u rfl id) rfl rfl <|
            q_and (.f rfl rfl) (.u rfl id) (.u rfl id) rfl <|
            q_or .n (.t rfl) (.u rfl id) rfl <|
            Lex.nil) (by kernel_rfl) ?_
        refine run_cond (.t rfl) rfl (fun h7 => ?_) (fun h7 => ?_)
        · try simp only [Bool.and_eq_true, Bool.or_eq_true, Bool.not_eq_true', Bool.and_eq_false_iff, Bool.or_eq_false_iff, Bool.not_eq_false', decide_eq_true_eq, decide_eq_false_iff_not, beq_iff_eq, bne_iff_ne, beq_eq_false_iff_ne, bne_eq_false_iff_eq, Bool.true_and, ne_eq, Decidable.not_not, Int.not_lt, Int.not_le, Nat.not_lt, Nat.not_le, strB_nil, strB_nil', strB_nnil, strB_nnil'] at h7
          try have hf0h7 := indexValid_imp h7
          try have hf1h7 := indexValid_imp h7.1
          try have hf2h7 := indexValid_imp h7.2
          try have hf3h7 := indexValid_imp h7.1.1
          try have hf4h7 := indexValid_imp h7.1.2
          try have hf5h7 := indexValid_imp h7.2.1
          try have hf6h7 := indexValid_imp h7.2.2
          try have hf7h7 := indexValid_imp h7.1.1.1
          try have hf8h7 := indexValid_imp h7.1.1.2
          refine run_seq ?_
          refine run_region (q_assign .n (.c rfl) rfl <|
              Lex.nil) ?_
          exact run_ret [] (.cons (.t rfl rfl) .nil) rfl trivial rfl
        · try simp only [Bool.and_eq_true, Bool.or_eq_true, Bool.not_eq_true', Bool.and_eq_false_iff, Bool.or_eq_false_iff, Bool.not_eq_false', decide_eq_true_eq, decide_eq_false_iff_not, beq_iff_eq, bne_iff_ne, beq_eq_false_iff_ne, bne_eq_false_iff_eq, Bool.true_and, ne_eq, Decidable.not_not, Int.not_lt, Int.not_le, Nat.not_lt, Nat.not_le, strB_nil, strB_nil', strB_nnil, strB_nnil'] at h7
          try have hf0h7 := indexValid_imp h7
          try have hf1h7 := indexValid_imp h7.1
          try have hf2h7 := indexValid_imp h7.2
          try have hf3h7 := indexValid_imp h7.1.1
          try have hf4h7 := indexValid_imp h7.1.2
          try have hf5h7 := indexValid_imp h7.2.1
          try have hf6h7 := indexValid_imp h7.2.2
          try have hf7h7 := indexValid_imp h7.1.1.1
          try have hf8h7 := indexValid_imp h7.1.1.2
          refine run_skip ?_
          refine run_endB ?_
          refine run_region (q_add .n (.t rfl) (.c rfl) (fun _ => by omega) rfl <|
              q_move .n (.t rfl) rfl <|
              Lex.nil) ?_
          exact run_again (x1 + 1) ⟨by omega, by omega⟩ (by omega) (sub_of [] ⟨rfl, rfl, rfl, rfl, rfl, trivial⟩ ⟨rfl, trivial⟩ rfl)
      · try simp only [Bool.and_eq_true, Bool.or_eq_true, Bool.not_eq_true', Bool.and_eq_false_iff, Bool.or_eq_false_iff, Bool.not_eq_false', decide_eq_true_eq, decide_eq_false_iff_not, beq_iff_eq, bne_iff_ne, beq_eq_false_iff_ne, bne_eq_false_iff_eq, Bool.true_and, ne_eq, Decidable.not_not, Int.not_lt, Int.not_le, Nat.not_lt, Nat.not_le, strB_nil, strB_nil', strB_nnil, strB_nnil'] at h6
        refine run_exit rfl ?_
        exact run_cont hk4 x1 ⟨by omega, by omega, by omega⟩ (sub_of [] trivial trivial rfl)

/-! ### slices_IndexFunc_int64 -/
theorem c_slices_IndexFunc_int64 (s_ : List Int) (f : Int → Bool) (F_f : FuncId) (C_f : List V) (he_f : entB Try.prog F_f = true) (hr_f : C_f.all V.ro = true) (hc_f : ∀ (a0 : Int), Con Try.prog F_f ([.int .i64 a0] ++ C_f) [] (.bool (f a0)) []) : Con Try.prog 124 [.sl 1 (s_.map (V.int .i64)), .clo F_f C_f] [] (.int .i64 (m_slices_IndexFunc_int64 s_ f)) ([]) := by
  refine con_intro (out := fun r : Int => ((.int .i64 r : V), ([] : List (Nat × Option O)))) (r := (m_slices_IndexFunc_int64 s_ f)) Try.func124 rfl Try.ntmps124 rfl ?_
  refine run_fact (t := 0) rfl fun hl => ?_
  have l1 := hl; clear hl; simp only [List.length_map] at l1
  refine run_seq ?_
  refine run_region (q_assign .n (.c rfl) rfl <|
      Lex.nil) ?_
  refine run_seq ?_
  refine run_seq ?_
  refine run_region (q_move .n (.t rfl) rfl <|
      q_len .n (.t rfl) rfl len_map ss_25 rfl <|
      q_move .n (.c rfl) rfl <|
      Lex.nil) ?_
  refine run_block ?_
  refine run_LOOP (m_slices_IndexFunc_int64_b1 s_ f) _ _ _ rfl (fun (x1 : Int) => 0 ≤ x1 ∧ x1 ≤ (s_.length : Int)) (fun x1 => 0 ≤ x1 ∧ x1 ≤ (s_.length : Int) ∧ (s_.length : Int) ≤ x1) (fun x1 => ((s_.length : Int) - x1 : Int).toNat) (fun x1 => ⟨[(0, some (true, .sl 1 (s_.map (V.int .i64)))), (1, some (true, .clo F_f C_f)), (7, some (true, .int .i64 (s_.length : Int))), (8, some (true, .int .i64 x1))], []⟩) (fun x1 => ⟨[], []⟩) ⟨by omega, by omega⟩ (by omega) (sub_of [] ⟨rfl, clo_ren hr_f rfl, rfl, rfl, trivial⟩ trivial rfl) ?_ ?_
  · intro x1 i6
    obtain ⟨e7, e8, e9⟩ := i6
    try dsimp only at *
    refine run_seq ?_
    refine run_region (q_assign .n (.c rfl) rfl <|
        Lex.nil) ?_
    exact run_ret [] (.cons (.t rfl rfl) .nil) rfl trivial rfl
  · intro rec1 k1 hk2 x1 i3
    obtain ⟨e10, e11⟩ := i3
    try dsimp only at *
    refine run_seq ?_
    refine run_region (q_int .n (.t rfl) (.t rfl) rfl rfl <|
        Lex.nil) ?_
    refine run_seq ?_
    refine run_cond (.t rfl) rfl (fun h4 => ?_) (fun h4 => ?_)
    · try simp only [Bool.and_eq_true, Bool.or_eq_true, Bool.not_eq_true', Bool.and_eq_false_iff, Bool.or_eq_false_iff, Bool.not_eq_false', decide_eq_true_eq, decide_eq_false_iff_not, beq_iff_eq, bne_iff_ne, beq_eq_false_iff_ne, bne_eq_false_iff_eq, Bool.true_and, ne_eq, Decidable.not_not, Int.not_lt, Int.not_le, Nat.not_lt, Nat.not_le, strB_nil, strB_nil', strB_nnil, strB_nnil'] at h4
      refine run_skip ?_
      refine run_seq ?_
      refine run_block ?_
      refine run_seq ?_
      refine run_region (q_move .n (.t rfl) rfl <|
          q_assign .n (.t rfl) rfl <|
          Lex.nil) ?_
      refine run_seq ?_
      refine run_region (q_move .n (.t rfl) rfl <|
          q_move .n (.t rfl) rfl <|
          q_move .n (.t rfl) rfl <|
          q_idx_rm .n (.t rfl) (.t rfl) sl_25 (fun _ => by omega) rfl <|
          q_ld1_ro .n (.t rfl) rfl ic_2 rfl <|
          q_call0 (full := false) .n (.c (.t rfl)) he_f (.cons (.t rfl) .nil) (passes_app hr_f (.cons (.b (.a (.same rfl))) .nil)) (fun hg => hc_f (at' s_ x1)) rfl (fun h => Bool.noConfusion h) rfl <|
          Lex.nil) ?_
      refine run_cond (.t rfl) rfl (fun h5 => ?_) (fun h5 => ?_)
      · try simp only [Bool.and_eq_true, Bool.or_eq_true, Bool.not_eq_true', Bool.and_eq_false_iff, Bool.or_eq_false_iff, Bool.not_eq_false', decide_eq_true_eq, decide_eq_false_iff_not, beq_iff_eq, bne_iff_ne, beq_eq_false_iff_ne, bne_eq_false_iff_eq, Bool.true_and, ne_eq, Decidable.not_not, Int.not_lt, Int.not_le, Nat.not_lt, Nat.not_le, strB_nil, strB_nil', strB_nnil, strB_nnil'] at h5
        refine run_seq ?_
        refine run_region (q_move .n (.t rfl) rfl <|
            q_assign .n (.t rfl) rfl <|
            Lex.nil) ?_
        exact run_ret [] (.cons (.t rfl rfl) .nil) rfl trivial rfl
      · try simp only [Bool.and_eq_true, Bool.or_eq_true, Bool.not_eq_true', Bool.and_eq_false_iff, Bool.or_eq_false_iff, Bool.not_eq_false', decide_eq_true_eq, decide_eq_false_iff_not, beq_iff_eq, bne_iff_ne, beq_eq_false_iff_ne, bne_eq_false_iff_eq, Bool.true_and, ne_eq, Decidable.not_not, Int.not_lt, Int.not_le, Nat.not_lt, Nat.not_le, strB_nil, strB_nil', strB_nnil, strB_nnil'] at h5
        refine run_skip ?_
        refine run_endB ?_
        refine run_region (q_add .n (.t rfl) (.c rfl) (fun _ => by omega) rfl <|
            q_move .n (.t rfl) rfl <|
            Lex.nil) ?_
        exact run_again (x1 + 1) ⟨by omega, by omega⟩ (by omega) (sub_of [] ⟨rfl, clo_ren hr_f rfl, rfl, rfl, trivial⟩ trivial rfl)
    · try simp only [Bool.and_eq_true, Bool.or_eq_true, Bool.not_eq_true', Bool.and_eq_false_iff, Bool.or_eq_false_iff, Bool.not_eq_false', decide_eq_true_eq, decide_eq_false_iff_not, beq_iff_eq, bne_iff_ne, beq_eq_false_iff_ne, bne_eq_false_iff_eq, Bool.true_and, ne_eq, Decidable.not_not, Int.not_lt, Int.not_le, Nat.not_lt, Nat.not_le, strB_nil, strB_nil', strB_nnil, strB_nnil'] at h4
      refine run_exit rfl ?_
      exact run_cont hk2 x1 ⟨by omega, by omega, by omega⟩ (sub_of [] trivial trivial rfl)

/-! ### slices_ContainsFunc_int64 -/
theorem c_slices_ContainsFunc_int64 (s_ : List Int) (f : Int → Bool) (F_f : FuncId) (C_f : List V) (he_f : entB Try.prog F_f = true) (hr_f : C_f.all V.ro = true) (hc_f : ∀ (a0 : Int), Con Try.prog F_f ([.int .i64 a0] ++ C_f) [] (.bool (f a0)) []) : Con Try.prog 100 [.sl 1 (s_.map (V.int .i64)), .clo F_f C_f] [] (.bool (m_slices_ContainsFunc_int64 s_ f)) ([]) := by
  refine con_intro (out := fun r : Bool => ((.bool r : V), ([] : List (Nat × Option O)))) (r := (m_slices_ContainsFunc_int64 s_ f)) Try.func100 rfl Try.ntmps100 rfl ?_
  refine run_fact (t := 0) rfl fun hl => ?_
  have l1 := hl; clear hl; simp only [List.length_map] at l1
  refine run_seq ?_
  refine run_region (q_assign .n (.c rfl) rfl <|
      Lex.nil) ?_
  refine run_seq ?_
  refine run_region (q_move .n (.t rfl) rfl <|
      q_move .n (.t rfl) rfl <|
      q_call0 (full := false) .n .f en_124 (.cons (.t rfl) (.cons (.t rfl) .nil)) (.cons (.b (.a (.same rfl))) (.cons (.clo (passBs_ro hr_f)) .nil)) (fun hg => c_slices_IndexFunc_int64 s_ f F_f C_f he_f hr_f hc_f) rfl (fun h => Bool.noConfusion h) rfl <|
      q_int .n (.t rfl) (.c rfl) rfl rfl <|
      q_assign .n (.t rfl) rfl <|
      Lex.nil) ?_
  exact run_ret [] (.cons (.t rfl rfl) .nil) rfl trivial rfl

/-! ### impl_allWithin_1 -/
theorem c_impl_allWithin_1 (n_ : Int) (p1 : Int) (p2 : Int) : Con Try.prog 131 [.int .i64 n_, .rp [.int .i64 p1], .rp [.int .i64 p2]] [] (.bool (m_impl_allWithin_1 n_ p1 p2)) ([]) := by
  refine con_intro (out := fun r : Bool => ((.bool r : V), ([] : List (Nat × Option O)))) (r := (m_impl_allWithin_1 n_ p1 p2)) Try.func131 rfl Try.ntmps131 rfl ?_
  refine run_seq ?_
  refine run_region (q_assign .n (.c rfl) rfl <|
      Lex.nil) ?_
  refine run_seq ?_
  refine run_region (q_move .n (.t rfl) rfl <|
      q_ld1_ro .n (.t rfl) rfl ic_2 rfl <|
      q_ld1_ro .n (.t rfl) rfl ic_2 rfl <|
      q_call0 (full := false) .n .f en_85 (.cons (.t rfl) (.cons (.t rfl) (.cons (.t rfl) .nil))) (.cons (.b (.a (.same rfl))) (.cons (.b (.a (.same rfl))) (.cons (.b (.a (.same rfl))) .nil))) (fun hg => c_impl_within n_ p1 p2) rfl (fun h => Bool.noConfusion h) rfl <|
      q_not .n (.t rfl) rfl <|
      q_assign .n (.t rfl) rfl <|
      Lex.nil) ?_
  exact run_ret [] (.cons (.t rfl rfl) .nil) rfl trivial rfl

/-! ### impl_allWithin -/
theorem c_impl_allWithin (list : List Int) (low : Int) (high : Int) : Con Try.prog 111 [.sl 1 (list.map (V.int .i64)), .int .i64 low, .int .i64 high] [] (.bool (m_impl_allWithin list low high)) ([]) := by
  refine con_intro (out := fun r : Bool => ((.bool r : V), ([] : List (Nat × Option O)))) (r := (m_impl_allWithin list low high)) Try.func111 rfl Try.ntmps111 rfl ?_
  refine run_fact (t := 0) rfl fun hl => ?_
  have l1 := hl; clear hl; simp only [List.length_map] at l1
  refine run_seq ?_
  refine run_region (q_box (l := 200) .n rfl (.t rfl) rfl rfl rfl rfl <|
      q_box (l := 201) .n rfl (.t rfl) rfl rfl rfl rfl <|
      q_assign .n (.c rfl) rfl <|
      Lex.nil) ?_
  refine run_seq ?_
  refine run_region (q_move .n (.t rfl) rfl <|
      q_clo .n (.cons (.t rfl) (.cons (.t rfl) .nil)) rfl rfl <|
      q_call0 (full := true) .n .f en_100 (.cons (.t rfl) (.cons (.t rfl) .nil)) (.cons (.b (.a (.same rfl))) (.cons (.clo (.cons (.ptr rfl rfl (.inr rfl) rfl rfl (.cons (.same rfl) .nil)) (.cons (.ptr rfl rfl (.inr rfl) rfl rfl (.cons (.same rfl) .nil)) .nil))) .nil)) (fun hg => c_slices_ContainsFunc_int64 list (fun (a0 : Int) => m_impl_allWithin_1 a0 low high) 131 [.rp [.int .i64 low], .rp [.int .i64 high]] en_131 rfl (fun a0 => c_impl_allWithin_1 a0 low high)) rfl (fun _ => rfl) rfl <|
      q_not .n (.t rfl) rfl <|
      q_assign .n (.t rfl) rfl <|
      Lex.nil) ?_
  exact run_ret [] (.cons (.t rfl rfl) .nil) rfl trivial rfl

/-! ### impl_Mine_hasList -/
theorem c_impl_Mine_hasList (m_ : gMine) (list : List Int) (low : Int) (high : Int) : Con Try.prog 112 [.st [.int .i64 m_.Junctions, .sl 7 (m_.Airways.map gAirway.v)], .sl 1 (list.map (V.int .i64)), .int .i64 low, .int .i64 high] [] (.bool (m_impl_Mine_hasList m_ list low high)) ([]) := by
  refine con_intro (out := fun r : Bool => ((.bool r : V), ([] : List (Nat × Option O)))) (r := (m_impl_Mine_hasList m_ list low high)) Try.func112 rfl Try.ntmps112 rfl ?_
  refine run_factS (t := 0) 1 rfl rfl fun hl => ?_
  have l1 := hl; clear hl; simp only [List.length_map] at l1
  refine run_fact (t := 1) rfl fun hl => ?_
  have l2 := hl; clear hl; simp only [List.length_map] at l2
  refine run_seq ?_
  refine run_region (q_box (l := 200) .n rfl (.t rfl) rfl rfl rfl rfl <|
      q_assign .n (.c rfl) rfl <|
      Lex.nil) ?_
  refine run_seq ?_
  refine run_region (q_move .n (.t rfl) rfl <|
      q_len .n (.t rfl) rfl len_map ss_25 rfl <|
      q_fld_ow .n (.t rfl) fo_33_1 rfl <|
      q_ld1_ow .n (.t rfl) rfl (.inr rfl) (fun _ => rfl) rfl ic_31 rfl <|
      q_len .n (.t rfl) rfl len_map ss_31 rfl <|
      q_int .n (.t rfl) (.t rfl) rfl rfl <|
      q_move .n (.t rfl) rfl <|
      q_move (.t rfl rfl) (.t rfl) rfl <|
      q_move (.t rfl rfl) (.t rfl) rfl <|
      q_move (.t rfl rfl) (.t rfl) rfl <|
      q_call0 (full := false) (.t rfl rfl) .f en_111 (.cons (.u rfl id) (.cons (.u rfl id) (.cons (.u rfl id) .nil))) (.cons (.b (.a (.same rfl))) (.cons (.b (.a (.same rfl))) (.cons (.b (.a (.same rfl))) .nil))) (fun hg => c_impl_allWithin list low high) rfl (fun h => Bool.noConfusion h) rfl <|
      q_and .n (.t rfl) (.u rfl id) rfl <|
      q_assign .n (.t rfl) rfl <|
      Lex.nil) ?_
  exact run_ret [] (.cons (.t rfl rfl) .nil) rfl trivial rfl

/-! ### impl_Mine_hasFlows -/
theorem c_impl_Mine_hasFlows (m_ : gMine) (flows : List Int) : Con Try.prog 84 [.st [.int .i64 m_.Junctions, .sl 7 (m_.Airways.map gAirway.v)], .sl 1 (flows.map (V.int .i64))] [] (.bool (m_impl_Mine_hasFlows m_ flows)) ([]) := by
  refine con_intro (out := fun r : Bool => ((.bool r : V), ([] : List (Nat × Option O)))) (r := (m_impl_Mine_hasFlows m_ flows)) Try.func84 rfl Try.ntmps84 rfl ?_
  refine run_factS (t := 0) 1 rfl rfl fun hl => ?_
  have l1 := hl; clear hl; simp only [List.length_map] at l1
  refine run_fact (t := 1) rfl fun hl => ?_
  have l2 := hl; clear hl; simp only [List.length_map] at l2
  refine run_seq ?_
  refine run_region (q_box (l := 200) .n rfl (.t rfl) rfl rfl rfl rfl <|
      q_assign .n (.c rfl) rfl <|
      Lex.nil) ?_
  refine run_seq ?_
  refine run_region (q_ldN_ow .n (.t rfl) rfl (.inr rfl) ag_33 (fun _ => rfl) rfl rfl <|
      q_move .n (.t rfl) rfl <|
      q_call0 (full := false) .n .f en_112 (.cons (.t rfl) (.cons (.t rfl) (.cons (.c rfl) (.cons (.c rfl) .nil)))) (.cons (.sts rfl) (.cons (.b (.a (.same rfl))) (.cons (.b (.a (.same rfl))) (.cons (.b (.a (.same rfl))) .nil)))) (fun hg => c_impl_Mine_hasList m_ flows (-100000) 100000) rfl (fun h => Bool.noConfusion h) rfl <|
      q_assign .n (.t rfl) rfl <|
      Lex.nil) ?_
  exact run_ret [] (.cons (.t rfl rfl) .nil) rfl trivial rfl

/-! ### impl_jobsCode -/
theorem c_impl_jobsCode (m_ : gMine) (flows : List Int) (list : List gJob) : Con Try.prog 47 [.st [.int .i64 m_.Junctions, .sl 7 (m_.Airways.map gAirway.v)], .sl 1 (flows.map (V.int .i64)), .sl 4 (list.map gJob.v)] [] (.int .i64 (m_impl_jobsCode m_ flows list)) ([]) := by
  refine con_intro (out := fun r : Int => ((.int .i64 r : V), ([] : List (Nat × Option O)))) (r := (m_impl_jobsCode m_ flows list)) Try.func47 rfl Try.ntmps47 rfl ?_
  refine run_factS (t := 0) 1 rfl rfl fun hl => ?_
  have l1 := hl; clear hl; simp only [List.length_map] at l1
  refine run_fact (t := 1) rfl fun hl => ?_
  have l2 := hl; clear hl; simp only [List.length_map] at l2
  refine run_fact (t := 2) rfl fun hl => ?_
  have l3 := hl; clear hl; simp only [List.length_map] at l3
  refine run_seq ?_
  refine run_region (q_box (l := 200) .n rfl (.t rfl) rfl rfl rfl rfl <|
      q_assign .n (.c rfl) rfl <|
      Lex.nil) ?_
  refine run_seq ?_
  refine run_block ?_
  refine run_seq ?_
  refine run_region (q_ldN_ow .n (.t rfl) rfl (.inr rfl) ag_33 (fun _ => rfl) rfl rfl <|
      q_move .n (.t rfl) rfl <|
      q_call0 (full := false) .n .f en_73 (.cons (.t rfl) (.cons (.t rfl) .nil)) (.cons (.sts rfl) (.cons (.b (.a (.same rfl))) .nil)) (fun hg => c_impl_ValidJobs m_ list) rfl (fun h => Bool.noConfusion h) rfl <|
      q_not .n (.t rfl) rfl <|
      q_assign .n (.t rfl) rfl <|
      Lex.nil) ?_
  refine run_cond (.t rfl) rfl (fun h4 => ?_) (fun h4 => ?_)
  · try simp only [Bool.and_eq_true, Bool.or_eq_true, Bool.not_eq_true', Bool.and_eq_false_iff, Bool.or_eq_false_iff, Bool.not_eq_false', decide_eq_true_eq, decide_eq_false_iff_not, beq_iff_eq, bne_iff_ne, beq_eq_false_iff_ne, bne_eq_false_iff_eq, Bool.true_and, ne_eq, Decidable.not_not, Int.not_lt, Int.not_le, Nat.not_lt, Nat.not_le, strB_nil, strB_nil', strB_nnil, strB_nnil'] at h4
    try have hf0h4 := valJobs_in h4
    try have hf1h4 := valJobs_in h4.1
    try have hf2h4 := valJobs_in h4.2
    try have hf3h4 := valJobs_in h4.1.1
    try have hf4h4 := valJobs_in h4.1.2
    try have hf5h4 := valJobs_in h4.2.1
    try have hf6h4 := valJobs_in h4.2.2
    try have hf7h4 := valJobs_m h4
    try have hf8h4 := valJobs_m h4.1
    try have hf9h4 := valJobs_m h4.2
    try have hf10h4 := valJobs_m h4.1.1
    try have hf11h4 := valJobs_m h4.1.2
    try have hf12h4 := valJobs_m h4.2.1
    try have hf13h4 := valJobs_m h4.2.2
    refine run_seq ?_
    refine run_region (q_assign .n (.c rfl) rfl <|
        Lex.nil) ?_
    exact run_ret [] (.cons (.t rfl rfl) .nil) rfl trivial rfl
  · try simp only [Bool.and_eq_true, Bool.or_eq_true, Bool.not_eq_true', Bool.and_eq_false_iff, Bool.or_eq_false_iff, Bool.not_eq_false', decide_eq_true_eq, decide_eq_false_iff_not, beq_iff_eq, bne_iff_ne, beq_eq_false_iff_ne, bne_eq_false_iff_eq, Bool.true_and, ne_eq, Decidable.not_not, Int.not_lt, Int.not_le, Nat.not_lt, Nat.not_le, strB_nil, strB_nil', strB_nnil, strB_nnil'] at h4
    try have hf0h4 := valJobs_in h4
    try have hf1h4 := valJobs_in h4.1
    try have hf2h4 := valJobs_in h4.2
    try have hf3h4 := valJobs_in h4.1.1
    try have hf4h4 := valJobs_in h4.1.2
    try have hf5h4 := valJobs_in h4.2.1
    try have hf6h4 := valJobs_in h4.2.2
    try have hf7h4 := valJobs_m h4
    try have hf8h4 := valJobs_m h4.1
    try have hf9h4 := valJobs_m h4.2
    try have hf10h4 := valJobs_m h4.1.1
    try have hf11h4 := valJobs_m h4.1.2
    try have hf12h4 := valJobs_m h4.2.1
    try have hf13h4 := valJobs_m h4.2.2
    refine run_seq ?_
    refine run_region (q_ldN_ow .n (.t rfl) rfl (.inr rfl) ag_33 (fun _ => rfl) rfl rfl <|
        q_move .n (.t rfl) rfl <|
        q_call0 (full := false) .n .f en_84 (.cons (.t rfl) (.cons (.t rfl) .nil)) (.cons (.sts rfl) (.cons (.b (.a (.same rfl))) .nil)) (fun hg => c_impl_Mine_hasFlows m_ flows) rfl (fun h => Bool.noConfusion h) rfl <|
        q_not .n (.t rfl) rfl <|
        q_assign .n (.t rfl) rfl <|
        Lex.nil) ?_
    refine run_cond (.t rfl) rfl (fun h5 => ?_) (fun h5 => ?_)
    · try simp only [Bool.and_eq_true, Bool.or_eq_true, Bool.not_eq_true', Bool.and_eq_false_iff, Bool.or_eq_false_iff, Bool.not_eq_false', decide_eq_true_eq, decide_eq_false_iff_not, beq_iff_eq, bne_iff_ne, beq_eq_false_iff_ne, bne_eq_false_iff_eq, Bool.true_and, ne_eq, Decidable.not_not, Int.not_lt, Int.not_le, Nat.not_lt, Nat.not_le, strB_nil, strB_nil', strB_nnil, strB_nnil'] at h5
      refine run_seq ?_
      refine run_region (q_assign .n (.c rfl) rfl <|
          Lex.nil) ?_
      exact run_ret [] (.cons (.t rfl rfl) .nil) rfl trivial rfl
    · try simp only [Bool.and_eq_true, Bool.or_eq_true, Bool.not_eq_true', Bool.and_eq_false_iff, Bool.or_eq_false_iff, Bool.not_eq_false', decide_eq_true_eq, decide_eq_false_iff_not, beq_iff_eq, bne_iff_ne, beq_eq_false_iff_ne, bne_eq_false_iff_eq, Bool.true_and, ne_eq, Decidable.not_not, Int.not_lt, Int.not_le, Nat.not_lt, Nat.not_le, strB_nil, strB_nil', strB_nnil, strB_nnil'] at h5
      refine run_skip ?_
      refine run_endB ?_
      refine run_seq ?_
      refine run_region (q_assign .n (.c rfl) rfl <|
          Lex.nil) ?_
      exact run_ret [] (.cons (.t rfl rfl) .nil) rfl trivial rfl

/-! ### impl_budgetValid -/
theorem c_impl_budgetValid (budget : Int) : Con Try.prog 48 [.int .i64 budget] [] (.bool (m_impl_budgetValid budget)) ([]) := by
  refine con_intro (out := fun r : Bool => ((.bool r : V), ([] : List (Nat × Option O)))) (r := (m_impl_budgetValid budget)) Try.func48 rfl Try.ntmps48 rfl ?_
  refine run_seq ?_
  refine run_region (q_assign .n (.c rfl) rfl <|
      Lex.nil) ?_
  refine run_seq ?_
  refine run_region (q_move .n (.t rfl) rfl <|
      q_call0 (full := false) .n .f en_85 (.cons (.t rfl) (.cons (.c rfl) (.cons (.c rfl) .nil))) (.cons (.b (.a (.same rfl))) (.cons (.b (.a (.same rfl))) (.cons (.b (.a (.same rfl))) .nil))) (fun hg => c_impl_within budget 1 20000) rfl (fun h => Bool.noConfusion h) rfl <|
      q_assign .n (.t rfl) rfl <|
      Lex.nil) ?_
  exact run_ret [] (.cons (.t rfl rfl) .nil) rfl trivial rfl

/-! ### impl_Job_need -/
theorem c_impl_Job_need (t : gJob) : Con Try.prog 79 [.st [.str t.Id, .int .i64 t.Airway, .int .i64 t.People, .int .i64 t.Power]] [] (.int .i64 (m_impl_Job_need t)) ([]) := by
  refine con_intro (out := fun r : Int => ((.int .i64 r : V), ([] : List (Nat × Option O)))) (r := (m_impl_Job_need t)) Try.func79 rfl Try.ntmps79 rfl ?_
  refine run_seq ?_
  refine run_region (q_box (l := 200) .n rfl (.t rfl) rfl rfl rfl rfl <|
      q_assign .n (.c rfl) rfl <|
      Lex.nil) ?_
  refine run_seq ?_
  refine run_region (q_fld_ow .n (.t rfl) fo_66_2 rfl <|
      q_ld1_ow .n (.t rfl) rfl (.inr rfl) (fun _ => rfl) rfl ic_2 rfl <|
      q_int .n (.c rfl) (.t rfl) rfl rfl <|
      q_fld_ow .n (.t rfl) fo_66_3 rfl <|
      q_ld1_ow .n (.t rfl) rfl (.inr rfl) (fun _ => rfl) rfl ic_2 rfl <|
      q_int .n (.c rfl) (.t rfl) rfl rfl <|
      q_int .n (.t rfl) (.t rfl) rfl rfl <|
      q_assign .n (.t rfl) rfl <|
      Lex.nil) ?_
  exact run_ret [] (.cons (.t rfl rfl) .nil) rfl trivial rfl

/-! ### impl_Mine_airNeeds -/
theorem c_impl_Mine_airNeeds (m_ : gMine) (list : List gJob) (hp1 : MineIn m_) (hp2 : ∀ t ∈ list, 0 ≤ t.Airway ∧ t.Airway < m_.Airways.length) : Con Try.prog 74 [.st [.int .i64 m_.Junctions, .sl 7 (m_.Airways.map gAirway.v)], .sl 4 (list.map gJob.v)] [] (.os 100 (m_impl_Mine_airNeeds m_ list).length) ([(100, some (.row 2 1 ((m_impl_Mine_airNeeds m_ list).map (V.int .i64))))]) := by
  refine con_intro (out := fun r : (List Int) => ((.os 100 r.length : V), ([(100, some (.row 2 1 (r.map (V.int .i64))))] : List (Nat × Option O)))) (r := (m_impl_Mine_airNeeds m_ list)) Try.func74 rfl Try.ntmps74 rfl ?_
  have hJ1 := hp1.1
  have hA1 := hp1.2.1
  refine run_factS (t := 0) 1 rfl rfl fun hl => ?_
  have l1 := hl; clear hl; simp only [List.length_map] at l1
  refine run_fact (t := 1) rfl fun hl => ?_
  have l2 := hl; clear hl; simp only [List.length_map] at l2
  refine run_seq ?_
  refine run_region (q_box (l := 200) .n rfl (.t rfl) rfl rfl rfl rfl <|
      q_assign .n (.c rfl) rfl <|
      Lex.nil) ?_
  refine run_seq ?_
  refine run_region (q_fld_ow .n (.t rfl) fo_33_1 rfl <|
      q_ld1_ow .n (.t rfl) rfl (.inr rfl) (fun _ => rfl) rfl ic_31 rfl <|
      q_len .n (.t rfl) rfl len_map ss_31 rfl <|
      q_makem (f := V.int .i64) (l := 201) (0 : Int) .n rfl (.t rfl) (.t rfl) si_25 zv_2 (by omega) rfl rfl rfl <|
      q_assign .n (.t rfl) rfl <|
      Lex.nil) ?_
  refine run_seq ?_
  refine run_seq ?_
  refine run_region (q_move .n (.t rfl) rfl <|
      q_len .n (.t rfl) rfl len_map ss_36 rfl <|
      q_move .n (.c rfl) rfl <|
      Lex.nil) ?_
  refine run_block ?_
  refine run_LOOP (m_impl_Mine_airNeeds_b1 m_ list) _ _ _ rfl (fun (x1 : (List Int) × Int) => 0 ≤ x1.2 ∧ x1.2 ≤ (list.length : Int) ∧ x1.1.length = (List.replicate ((m_.Airways.length : Int) : Int).toNat (0 : Int)).length) (fun x1 => 0 ≤ x1.2 ∧ x1.2 ≤ (list.length : Int) ∧ x1.1.length = (List.replicate ((m_.Airways.length : Int) : Int).toNat (0 : Int)).length ∧ (list.length : Int) ≤ x1.2) (fun x1 => ((list.length : Int) - x1.2 : Int).toNat) (fun x1 => ⟨[(5, some (true, .os 201 x1.1.length)), (12, some (true, .sl 4 (list.map gJob.v))), (13, some (true, .int .i64 (list.length : Int))), (14, some (true, .int .i64 x1.2))], [(201, some (.row 2 1 (x1.1.map (V.int .i64))))]⟩) (fun x1 => ⟨[(5, some (true, .os 201 x1.1.length))], [(201, some (.row 2 1 (x1.1.map (V.int .i64))))]⟩) ⟨by omega, by omega, by (simp only [List.length_append, List.length_cons, List.length_nil, List.length_replicate, put_len] at * <;> omega)⟩ (by omega) (sub_of [] ⟨rfl, rfl, rfl, rfl, trivial⟩ ⟨rfl, trivial⟩ rfl) ?_ ?_
  · intro x1 i6
    obtain ⟨e7, e8, e9, e10⟩ := i6
    try dsimp only at *
    refine run_seq ?_
    refine run_region (q_move .n (.t rfl) rfl <|
        q_assign .n (.t rfl) rfl <|
        Lex.nil) ?_
    exact run_ret [(100, 201)] (.cons (.t rfl rfl) .nil) (by first | rfl | (simp only [put_len]; rfl)) ⟨rfl, trivial⟩ rfl
  · intro rec1 k1 hk3 x1 i4
    obtain ⟨e11, e12, e13⟩ := i4
    try dsimp only at *
    refine run_seq ?_
    refine run_region (q_int .n (.t rfl) (.t rfl) rfl rfl <|
        Lex.nil) ?_
    refine run_seq ?_
    refine run_cond (.t rfl) rfl (fun h5 => ?_) (fun h5 => ?_)
    · try simp only [Bool.and_eq_true, Bool.or_eq_true, Bool.not_eq_true', Bool.and_eq_false_iff, Bool.or_eq_false_iff, Bool.not_eq_false', decide_eq_true_eq, decide_eq_false_iff_not, beq_iff_eq, bne_iff_ne, beq_eq_false_iff_ne, bne_eq_false_iff_eq, Bool.true_and, ne_eq, Decidable.not_not, Int.not_lt, Int.not_le, Nat.not_lt, Nat.not_le, strB_nil, strB_nil', strB_nnil, strB_nnil'] at h5
      refine run_skip ?_
      refine run_seq ?_
      refine run_block ?_
      refine run_seq ?_
      refine run_region (q_idx_rm .n (.t rfl) (.t rfl) sl_36 (fun _ => by omega) rfl <|
          q_ldN_ro .n (.t rfl) ag_66 rfl rfl rfl <|
          q_alloc (l := 202) .n rfl zv_66 rfl rfl <|
          q_st_boxm [.str (at' list x1.2).Id, .int .i64 (at' list x1.2).Airway, .int .i64 (at' list x1.2).People, .int .i64 (at' list x1.2).Power] .n rfl (.t rfl) (.t rfl) rfl ts_66 rfl rfl <|
          Lex.nil) ?_
      refine run_draw fmo (q_move .n (.t rfl) rfl <|
          q_fld_ow .n (.t rfl) fo_66_1 rfl <|
          q_ld1_ow .n (.t rfl) rfl (.inr rfl) (fun _ => rfl) rfl ic_2 rfl <|
          q_idx_ow .n (.t rfl) (.t rfl) sl_25 (fun _ => by ((have hw0 := at_all (i := x1.2) hp2 (by omega); first | omega | (simp only [List.length_append, List.length_cons, List.length_nil, List.length_replicate, put_len] at * <;> omega)))) rfl <|
          q_ld1_row .n (.t rfl) rfl (fun _ => by ((have hw0 := at_all (i := x1.2) hp2 (by omega); first | omega | (simp only [List.length_append, List.length_cons, List.length_nil, List.length_replicate, put_len] at * <;> omega)))) rfl rfl rfl ic_2 rfl <|
          q_ldN_ow .n (.t rfl) rfl (.inr rfl) ag_66 (fun _ => rfl) rfl rfl <|
          q_call0 (full := false) .n .f en_79 (.cons (.t rfl) .nil) (.cons (.sts rfl) .nil) (fun hg => c_impl_Job_need (at' list x1.2)) rfl (fun h => Bool.noConfusion h) rfl <|
          q_int .n (.t rfl) (.t rfl) rfl rfl <|
          q_idx_ow .n (.t rfl) (.t rfl) sl_25 (fun _ => by ((have hw0 := at_all (i := x1.2) hp2 (by omega); first | omega | (simp only [List.length_append, List.length_cons, List.length_nil, List.length_replicate, put_len] at * <;> omega)))) rfl <|
          q_st_rowm (IntKind.wrap .i64 ((at' x1.1 (at' list x1.2).Airway) + (m_impl_Job_need (at' list x1.2)))) .n rfl (.t rfl) (.t rfl) rfl ts_2 (by ((have hw0 := at_all (i := x1.2) hp2 (by omega); first | omega | (simp only [List.length_append, List.length_cons, List.length_nil, List.length_replicate, put_len] at * <;> omega)))) rfl rfl <|
          Lex.nil) (by kernel_rfl) ?_
      refine run_endB ?_
      refine run_region (q_add .n (.t rfl) (.c rfl) (fun _ => by omega) rfl <|
          q_move .n (.t rfl) rfl <|
          Lex.nil) ?_
      exact run_again (put' x1.1 (at' list x1.2).Airway (IntKind.wrap .i64 ((at' x1.1 (at' list x1.2).Airway) + (m_impl_Job_need (at' list x1.2)))), x1.2 + 1) ⟨by omega, by omega, by (simp only [List.length_append, List.length_cons, List.length_nil, List.length_replicate, put_len] at * <;> omega)⟩ (by omega) (sub_of [] ⟨os_len rfl (by first | (simp only [put_len]; done) | (first | omega | assumption | (simp only [List.length_append, List.length_cons, List.length_nil, List.length_replicate, put_len] at * <;> omega) | (((have hw0 := at_all (i := x1.2) hp2 (by omega); first | omega | (simp only [List.length_append, List.length_cons, List.length_nil, List.length_replicate, put_len] at * <;> omega))); done))), rfl, rfl, rfl, trivial⟩ ⟨rfl, trivial⟩ rfl)
    · try simp only [Bool.and_eq_true, Bool.or_eq_true, Bool.not_eq_true', Bool.and_eq_false_iff, Bool.or_eq_false_iff, Bool.not_eq_false', decide_eq_true_eq, decide_eq_false_iff_not, beq_iff_eq, bne_iff_ne, beq_eq_false_iff_ne, bne_eq_false_iff_eq, Bool.true_and, ne_eq, Decidable.not_not, Int.not_lt, Int.not_le, Nat.not_lt, Nat.not_le, strB_nil, strB_nil', strB_nnil, strB_nnil'] at h5
      refine run_exit rfl ?_
      exact run_cont hk3 (x1.1, x1.2) ⟨by omega, by omega, by omega, by omega⟩ (sub_of [] ⟨rfl, trivial⟩ ⟨rfl, trivial⟩ rfl)

/-! ### impl_abs -/
theorem c_impl_abs (n_ : Int) : Con Try.prog 75 [.int .i64 n_] [] (.int .i64 (m_impl_abs n_)) ([]) := by
  refine con_intro (out := fun r : Int => ((.int .i64 r : V), ([] : List (Nat × Option O)))) (r := (m_impl_abs n_)) Try.func75 rfl Try.ntmps75 rfl ?_
  refine run_seq ?_
  refine run_region (q_assign .n (.c rfl) rfl <|
      Lex.nil) ?_
  refine run_seq ?_
  refine run_region (q_move .n (.t rfl) rfl <|
      q_move .n (.t rfl) rfl <|
      q_neg .n (.t rfl) rfl <|
      q_max .n (.t rfl) (.t rfl) rfl <|
      q_assign .n (.t rfl) rfl <|
      Lex.nil) ?_
  exact run_ret [] (.cons (.t rfl rfl) .nil) rfl trivial rfl

/-! ### impl_Mine_fitJobs -/
theorem c_impl_Mine_fitJobs (m_ : gMine) (flows : List Int) (list : List gJob) (hp1 : MineIn m_) (hp2 : FlowsIn m_ flows) (hp3 : ∀ t ∈ list, 0 ≤ t.Airway ∧ t.Airway < m_.Airways.length) : Con Try.prog 58 [.st [.int .i64 m_.Junctions, .sl 7 (m_.Airways.map gAirway.v)], .sl 1 (flows.map (V.int .i64)), .sl 4 (list.map gJob.v)] [] (.bool (m_impl_Mine_fitJobs m_ flows list)) ([]) := by
  refine con_intro (out := fun r : Bool => ((.bool r : V), ([] : List (Nat × Option O)))) (r := (m_impl_Mine_fitJobs m_ flows list)) Try.func58 rfl Try.ntmps58 rfl ?_
  have hJ1 := hp1.1
  have hA1 := hp1.2.1
  have hF2 := hp2.1
  refine run_factS (t := 0) 1 rfl rfl fun hl => ?_
  have l1 := hl; clear hl; simp only [List.length_map] at l1
  refine run_fact (t := 1) rfl fun hl => ?_
  have l2 := hl; clear hl; simp only [List.length_map] at l2
  refine run_fact (t := 2) rfl fun hl => ?_
  have l3 := hl; clear hl; simp only [List.length_map] at l3
  refine run_seq ?_
  refine run_region (q_box (l := 200) .n rfl (.t rfl) rfl rfl rfl rfl <|
      q_assign .n (.c rfl) rfl <|
      Lex.nil) ?_
  refine run_seq ?_
  refine run_seq ?_
  refine run_region (q_ldN_ow .n (.t rfl) rfl (.inr rfl) ag_33 (fun _ => rfl) rfl rfl <|
      q_move .n (.t rfl) rfl <|
      q_callM (full := false) [] [(100, 201)] .n rfl .f en_74 (.cons (.t rfl) (.cons (.t rfl) .nil)) (.cons (.sts rfl) (.cons (.b (.a (.same rfl))) .nil)) (c_impl_Mine_airNeeds m_ list (by omega) (by omega)) trivial rfl rfl (fun h => Bool.noConfusion h) (fun h => Bool.noConfusion h) rfl <|
      q_len .n (.t rfl) rfl rfl ss_25 rfl <|
      q_move .n (.c rfl) rfl <|
      Lex.nil) ?_
  refine run_block ?_
  refine run_LOOP (m_impl_Mine_fitJobs_b1 m_ flows list) _ _ _ rfl (fun (x1 : Int) => 0 ≤ x1 ∧ x1 ≤ ((m_impl_Mine_airNeeds m_ list).length : Int)) (fun x1 => 0 ≤ x1 ∧ x1 ≤ ((m_impl_Mine_airNeeds m_ list).length : Int) ∧ ((m_impl_Mine_airNeeds m_ list).length : Int) ≤ x1) (fun x1 => (((m_impl_Mine_airNeeds m_ list).length : Int) - x1 : Int).toNat) (fun x1 => ⟨[(1, some (true, .sl 1 (flows.map (V.int .i64)))), (11, some (true, .os 201 (m_impl_Mine_airNeeds m_ list).length)), (12, some (true, .int .i64 ((m_impl_Mine_airNeeds m_ list).length : Int))), (13, some (true, .int .i64 x1))], [(201, some (.row 2 1 ((m_impl_Mine_airNeeds m_ list).map (V.int .i64))))]⟩) (fun x1 => ⟨[], []⟩) ⟨by omega, by omega⟩ (by omega) (sub_of [] ⟨rfl, rfl, rfl, rfl, trivial⟩ ⟨rfl, trivial⟩ rfl) ?_ ?_
  · intro x1 i8
    obtain ⟨e9, e10, e11⟩ := i8
    try dsimp only at *
    refine run_seq ?_
    refine run_region (q_assign .n (.c rfl) rfl <|
        Lex.nil) ?_
    exact run_ret [] (.cons (.t rfl rfl) .nil) rfl trivial rfl
  · intro rec1 k1 hk4 x1 i5
    obtain ⟨e12, e13⟩ := i5
    try dsimp only at *
    refine run_seq ?_
    refine run_region (q_int .n (.t rfl) (.t rfl) rfl rfl <|
        Lex.nil) ?_
    refine run_seq ?_
    refine run_cond (.t rfl) rfl (fun h6 => ?_) (fun h6 => ?_)
    · try simp only [Bool.and_eq_true, Bool.or_eq_true, Bool.not_eq_true', Bool.and_eq_false_iff, Bool.or_eq_false_iff, Bool.not_eq_false', decide_eq_true_eq, decide_eq_false_iff_not, beq_iff_eq, bne_iff_ne, beq_eq_false_iff_ne, bne_eq_false_iff_eq, Bool.true_and, ne_eq, Decidable.not_not, Int.not_lt, Int.not_le, Nat.not_lt, Nat.not_le, strB_nil, strB_nil', strB_nnil, strB_nnil'] at h6
      refine run_skip ?_
      refine run_seq ?_
      refine run_block ?_
      refine run_seq ?_
      refine run_region (q_move .n (.t rfl) rfl <|
          q_idx_ow .n (.t rfl) (.t rfl) sl_25 (fun _ => by omega) rfl <|
          q_ld1_row .n (.t rfl) rfl (fun _ => by omega) rfl rfl rfl ic_2 rfl <|
          q_assign .n (.t rfl) rfl <|
          q_assign .n (.t rfl) rfl <|
          Lex.nil) ?_
      refine run_seq ?_
      refine run_region (q_move .n (.t rfl) rfl <|
          q_move .n (.t rfl) rfl <|
          q_move .n (.t rfl) rfl <|
          q_idx_rm .n (.t rfl) (.t rfl) sl_25 (fun _ => by ((have hw0 := needs_len m_ list; first | omega | (simp only [List.length_append, List.length_cons, List.length_nil, List.length_replicate, put_len] at * <;> omega)))) rfl <|
          q_ld1_ro .n (.t rfl) rfl ic_2 rfl <|
          q_call0 (full := false) .n .f en_75 (.cons (.t rfl) .nil) (.cons (.b (.a (.same rfl))) .nil) (fun hg => c_impl_abs (at' flows x1)) rfl (fun h => Bool.noConfusion h) rfl <|
          q_int .n (.t rfl) (.t rfl) rfl rfl <|
          Lex.nil) ?_
      refine run_cond (.t rfl) rfl (fun h7 => ?_) (fun h7 => ?_)
      · try simp only [Bool.and_eq_true, Bool.or_eq_true, Bool.not_eq_true', Bool.and_eq_false_iff, Bool.or_eq_false_iff, Bool.not_eq_false', decide_eq_true_eq, decide_eq_false_iff_not, beq_iff_eq, bne_iff_ne, beq_eq_false_iff_ne, bne_eq_false_iff_eq, Bool.true_and, ne_eq, Decidable.not_not, Int.not_lt, Int.not_le, Nat.not_lt, Nat.not_le, strB_nil, strB_nil', strB_nnil, strB_nnil'] at h7
        refine run_seq ?_
        refine run_region (q_assign .n (.c rfl) rfl <|
            Lex.nil) ?_
        exact run_ret [] (.cons (.t rfl rfl) .nil) rfl trivial rfl
      · try simp only [Bool.and_eq_true, Bool.or_eq_true, Bool.not_eq_true', Bool.and_eq_false_iff, Bool.or_eq_false_iff, Bool.not_eq_false', decide_eq_true_eq, decide_eq_false_iff_not, beq_iff_eq, bne_iff_ne, beq_eq_false_iff_ne, bne_eq_false_iff_eq, Bool.true_and, ne_eq, Decidable.not_not, Int.not_lt, Int.not_le, Nat.not_lt, Nat.not_le, strB_nil, strB_nil', strB_nnil, strB_nnil'] at h7
        refine run_skip ?_
        refine run_endB ?_
        refine run_region (q_add .n (.t rfl) (.c rfl) (fun _ => by ((have hw0 := needs_len m_ list; first | omega | (simp only [List.length_append, List.length_cons, List.length_nil, List.length_replicate, put_len] at * <;> omega)))) rfl <|
            q_move .n (.t rfl) rfl <|
            Lex.nil) ?_
        exact run_again (x1 + 1) ⟨by omega, by omega⟩ (by omega) (sub_of [] ⟨rfl, rfl, rfl, rfl, trivial⟩ ⟨rfl, trivial⟩ rfl)
    · try simp only [Bool.and_eq_true, Bool.or_eq_true, Bool.not_eq_true', Bool.and_eq_false_iff, Bool.or_eq_false_iff, Bool.not_eq_false', decide_eq_true_eq, decide_eq_false_iff_not, beq_iff_eq, bne_iff_ne, beq_eq_false_iff_ne, bne_eq_false_iff_eq, Bool.true_and, ne_eq, Decidable.not_not, Int.not_lt, Int.not_le, Nat.not_lt, Nat.not_le, strB_nil, strB_nil', strB_nnil, strB_nnil'] at h6
      refine run_exit rfl ?_
      exact run_cont hk4 x1 ⟨by omega, by omega, by omega⟩ (sub_of [] trivial trivial rfl)

/-! ### impl_jobsOf -/
theorem c_impl_jobsOf (list : List gJob) (some_ : List Int) (hp1 : ∀ y ∈ some_, 0 ≤ y ∧ y < list.length) (hp2 : some_.length ≤ 1048576) : Con Try.prog 81 [.sl 4 (list.map gJob.v), .sl 1 (some_.map (V.int .i64))] [] (.os 100 (m_impl_jobsOf list some_).length) ([(100, some (.row 66 4 ((m_impl_jobsOf list some_).map gJob.v)))]) := by
  refine con_intro (out := fun r : (List gJob) => ((.os 100 r.length : V), ([(100, some (.row 66 4 (r.map gJob.v)))] : List (Nat × Option O)))) (r := (m_impl_jobsOf list some_)) Try.func81 rfl Try.ntmps81 rfl ?_
  refine run_fact (t := 0) rfl fun hl => ?_
  have l1 := hl; clear hl; simp only [List.length_map] at l1
  refine run_fact (t := 1) rfl fun hl => ?_
  have l2 := hl; clear hl; simp only [List.length_map] at l2
  refine run_seq ?_
  refine run_region (q_assign .n (.c rfl) rfl <|
      Lex.nil) ?_
  refine run_seq ?_
  refine run_region (q_assign .n (.c rfl) rfl <|
      Lex.nil) ?_
  refine run_seq ?_
  refine run_seq ?_
  refine run_region (q_move .n (.t rfl) rfl <|
      q_len .n (.t rfl) rfl len_map ss_25 rfl <|
      q_move .n (.c rfl) rfl <|
      Lex.nil) ?_
  refine run_block ?_
  refine run_sub (sub_adopt (t := 5) (l := 200) (el := 66) (sz := 4) rfl rfl) ?_
  refine run_LOOP (m_impl_jobsOf_b1 list some_) _ _ _ rfl (fun (x1 : (List gJob) × Int) => 0 ≤ x1.2 ∧ x1.2 ≤ (some_.length : Int) ∧ (x1.1.length : Int) + 0 ≤ x1.2 + (([] : List gJob).length : Int)) (fun x1 => 0 ≤ x1.2 ∧ x1.2 ≤ (some_.length : Int) ∧ (x1.1.length : Int) + 0 ≤ x1.2 + (([] : List gJob).length : Int) ∧ (some_.length : Int) ≤ x1.2) (fun x1 => ((some_.length : Int) - x1.2 : Int).toNat) (fun x1 => ⟨[(0, some (true, .sl 4 (list.map gJob.v))), (5, some (true, .os 200 x1.1.length)), (8, some (true, .sl 1 (some_.map (V.int .i64)))), (9, some (true, .int .i64 (some_.length : Int))), (10, some (true, .int .i64 x1.2))], [(200, some (.row 66 4 (x1.1.map gJob.v)))]⟩) (fun x1 => ⟨[(5, some (true, .os 200 x1.1.length))], [(200, some (.row 66 4 (x1.1.map gJob.v)))]⟩) ⟨by omega, by omega, by (simp only [List.length_append, List.length_cons, List.length_nil, List.length_replicate, put_len] at * <;> omega)⟩ (by omega) (sub_of [] ⟨rfl, rfl, rfl, rfl, rfl, trivial⟩ ⟨rfl, trivial⟩ rfl) ?_ ?_
  · intro x1 i6
    obtain ⟨e7, e8, e9, e10⟩ := i6
    try dsimp only at *
    refine run_seq ?_
    refine run_region (q_move .n (.t rfl) rfl <|
        q_assign .n (.t rfl) rfl <|
        Lex.nil) ?_
    exact run_ret [(100, 200)] (.cons (.t rfl rfl) .nil) (by first | rfl | (simp only [put_len]; rfl)) ⟨rfl, trivial⟩ rfl
  · intro rec1 k1 hk3 x1 i4
    obtain ⟨e11, e12, e13⟩ := i4
    try dsimp only at *
    refine run_seq ?_
    refine run_region (q_int .n (.t rfl) (.t rfl) rfl rfl <|
        Lex.nil) ?_
    refine run_seq ?_
    refine run_cond (.t rfl) rfl (fun h5 => ?_) (fun h5 => ?_)
    · try simp only [Bool.and_eq_true, Bool.or_eq_true, Bool.not_eq_true', Bool.and_eq_false_iff, Bool.or_eq_false_iff, Bool.not_eq_false', decide_eq_true_eq, decide_eq_false_iff_not, beq_iff_eq, bne_iff_ne, beq_eq_false_iff_ne, bne_eq_false_iff_eq, Bool.true_and, ne_eq, Decidable.not_not, Int.not_lt, Int.not_le, Nat.not_lt, Nat.not_le, strB_nil, strB_nil', strB_nnil, strB_nnil'] at h5
      refine run_skip ?_
      refine run_seq ?_
      refine run_block ?_
      refine run_seq ?_
      refine run_region (q_idx_rm .n (.t rfl) (.t rfl) sl_25 (fun _ => by omega) rfl <|
          q_ld1_ro .n (.t rfl) rfl ic_2 rfl <|
          q_assign .n (.t rfl) rfl <|
          Lex.nil) ?_
      refine run_region (q_move .n (.t rfl) rfl <|
          q_move .n (.t rfl) rfl <|
          q_move .n (.t rfl) rfl <|
          q_idx_rm .n (.t rfl) (.t rfl) sl_36 (fun _ => by ((have hw0 := at_all (i := x1.2) hp1 (by omega); first | omega | (simp only [List.length_append, List.length_cons, List.length_nil, List.length_replicate, put_len] at * <;> omega)))) rfl <|
          q_ldN_ro .n (.t rfl) ag_66 rfl rfl rfl <|
          q_bslicem ([at' list (at' some_ x1.2)] : List gJob) (f := gJob.v) (l := 201) .n rfl rfl (.cons (.t rfl) .nil) rfl si_36 zv_66 rfl rfl rfl <|
          q_appm (xs := x1.1) (ys := ([at' list (at' some_ x1.2)] : List gJob)) (f := gJob.v) (l := 202) .n rfl (.ow (.t rfl) rfl (take_all (by simp only [len_map, put_len] <;> rfl)) (by simp only [len_map, put_len] <;> rfl)) (.ow (.t rfl) rfl (take_all (by simp only [len_map, put_len] <;> rfl)) (by simp only [len_map, put_len] <;> rfl)) si_36 zv_66 rfl (by (simp only [List.length_append, List.length_cons, List.length_nil, List.length_replicate, put_len] at * <;> omega)) rfl rfl <|
          q_assign .n (.t rfl) rfl <|
          Lex.nil) ?_
      refine run_endB ?_
      refine run_region (q_add .n (.t rfl) (.c rfl) (fun _ => by omega) rfl <|
          q_move .n (.t rfl) rfl <|
          Lex.nil) ?_
      exact run_again (x1.1 ++ ([at' list (at' some_ x1.2)] : List gJob), x1.2 + 1) ⟨by omega, by omega, by (simp only [List.length_append, List.length_cons, List.length_nil, List.length_replicate, put_len] at * <;> omega)⟩ (by omega) (sub_of [(200, 202)] ⟨rfl, rfl, rfl, rfl, rfl, trivial⟩ ⟨rfl, trivial⟩ rfl)
    · try simp only [Bool.and_eq_true, Bool.or_eq_true, Bool.not_eq_true', Bool.and_eq_false_iff, Bool.or_eq_false_iff, Bool.not_eq_false', decide_eq_true_eq, decide_eq_false_iff_not, beq_iff_eq, bne_iff_ne, beq_eq_false_iff_ne, bne_eq_false_iff_eq, Bool.true_and, ne_eq, Decidable.not_not, Int.not_lt, Int.not_le, Nat.not_lt, Nat.not_le, strB_nil, strB_nil', strB_nnil, strB_nnil'] at h5
      refine run_exit rfl ?_
      exact run_cont hk3 (x1.1, x1.2) ⟨by omega, by omega, by omega, by omega⟩ (sub_of [] ⟨rfl, trivial⟩ ⟨rfl, trivial⟩ rfl)

/-! ### slices_Clone_int64 -/
theorem c_slices_Clone_int64 (s_ : List Int) (hp1 : s_.length ≤ 1048576) : Con Try.prog 86 [.sl 1 (s_.map (V.int .i64))] [] (.os 100 (m_slices_Clone_int64 s_).length) ([(100, some (.row 2 1 ((m_slices_Clone_int64 s_).map (V.int .i64))))]) := by
  refine con_intro (out := fun r : (List Int) => ((.os 100 r.length : V), ([(100, some (.row 2 1 (r.map (V.int .i64))))] : List (Nat × Option O)))) (r := (m_slices_Clone_int64 s_)) Try.func86 rfl Try.ntmps86 rfl ?_
  refine run_fact (t := 0) rfl fun hl => ?_
  have l1 := hl; clear hl; simp only [List.length_map] at l1
  refine run_seq ?_
  refine run_region (q_assign .n (.c rfl) rfl <|
      Lex.nil) ?_
  refine run_seq ?_
  refine run_seq ?_
  refine run_region (q_move .n (.t rfl) rfl <|
      q_eqnil .n (.t rfl) (.c rfl) us_25 rfl <|
      Lex.nil) ?_
  refine run_cond_ub (.t rfl) (fun h2 => ?_) ?_
  · have h2 := ub_nil h2
    refine run_r (r' := (([] : List Int))) (by show (([] : List Int) ++ s_) = (([] : List Int)); simp [h2]) ?_
    refine run_seq ?_
    refine run_region (q_assign .n (.c rfl) rfl <|
        Lex.nil) ?_
    refine run_sub (sub_adopt (t := 2) (l := 200) (el := 2) (sz := 1) rfl rfl) ?_
    exact run_ret [(100, 200)] (.cons (.t rfl rfl) .nil) (by first | rfl | (simp only [put_len]; rfl)) ⟨rfl, trivial⟩ rfl
  · skip
    refine run_skip ?_
    refine run_seq ?_
    refine run_region (q_bslicem ([] : List Int) (f := V.int .i64) (l := 201) .n rfl rfl .nil rfl si_25 zv_2 rfl rfl rfl <|
        q_move .n (.t rfl) rfl <|
        q_appm (xs := ([] : List Int)) (ys := s_) (f := V.int .i64) (l := 202) .n rfl (.ow (.t rfl) rfl (take_all (by simp only [len_map, put_len] <;> rfl)) (by simp only [len_map, put_len] <;> rfl)) (.ro (.t rfl)) si_25 zv_2 rfl (by (simp only [List.length_append, List.length_cons, List.length_nil, List.length_replicate, put_len] at * <;> omega)) rfl rfl <|
        q_assign .n (.t rfl) rfl <|
        Lex.nil) ?_
    exact run_ret [(100, 202)] (.cons (.t rfl rfl) .nil) (by first | rfl | (simp only [put_len]; rfl)) ⟨rfl, trivial⟩ rfl

/-! ### impl_jobSearch_visit -/
set_option maxRecDepth 100000 in
set_option maxHeartbeats 4000000 in
theorem c_impl_jobSearch_visit_n : ∀ (fuel : Nat) (s_ : gjobSearch) (from_ : Int) (hp1 : MineIn s_.mine) (hp2 : FlowsIn s_.mine s_.flows) (hp3 : JobsIn s_.mine s_.list) (hp4 : 0 ≤ from_ ∧ from_ ≤ s_.list.length) (hp5 : ∀ y ∈ s_.some_, 0 ≤ y ∧ y < s_.list.length) (hp6 : (s_.some_.length : Int) ≤ from_) (hmu : ((s_.list.length : Int) - from_).toNat < fuel), Con Try.prog 49 [.op 0 0 0 0, .int .i64 from_] [(0, some (.box 83 [.int .i64 s_.mine.Junctions, .sl 7 (s_.mine.Airways.map gAirway.v), .sl 1 (s_.flows.map (V.int .i64)), .sl 4 (s_.list.map gJob.v), .int .i64 s_.budget, .os 15 s_.some_.length, .os 16 s_.best.length])), (15, some (.row 2 1 (s_.some_.map (V.int .i64)))), (16, some (.row 2 1 (s_.best.map (V.int .i64))))] (.tup []) ([(100, some (.row 2 1 ((m_impl_jobSearch_visit_n fuel s_ from_).some_.map (V.int .i64)))), (101, some (.row 2 1 ((m_impl_jobSearch_visit_n fuel s_ from_).best.map (V.int .i64)))), (0, some (.box 83 [.int .i64 s_.mine.Junctions, .sl 7 (s_.mine.Airways.map gAirway.v), .sl 1 (s_.flows.map (V.int .i64)), .sl 4 (s_.list.map gJob.v), .int .i64 (m_impl_jobSearch_visit_n fuel s_ from_).budget, .os 100 (m_impl_jobSearch_visit_n fuel s_ from_).some_.length, .os 101 (m_impl_jobSearch_visit_n fuel s_ from_).best.length]))]) := by
  intro fuel
  induction fuel with
  | zero => intro s_ from_ hp1 hp2 hp3 hp4 hp5 hp6 hmu; exact absurd hmu (Nat.not_lt_zero _)
  | succ fuel ih =>
  intro s_ from_ hp1 hp2 hp3 hp4 hp5 hp6 hmu
  simp only [m_impl_jobSearch_visit_n]
  have hself := post_impl_jobSearch_visit fuel
  generalize m_impl_jobSearch_visit_n fuel = self_ at ih hself ⊢
  refine con_intro (out := fun r : gjobSearch => ((.tup [] : V), ([(100, some (.row 2 1 (r.some_.map (V.int .i64)))), (101, some (.row 2 1 (r.best.map (V.int .i64)))), (0, some (.box 83 [.int .i64 s_.mine.Junctions, .sl 7 (s_.mine.Airways.map gAirway.v), .sl 1 (s_.flows.map (V.int .i64)), .sl 4 (s_.list.map gJob.v), .int .i64 r.budget, .os 100 r.some_.length, .os 101 r.best.length]))] : List (Nat × Option O)))) (r := (m_impl_jobSearch_visit_body self_ s_ from_)) Try.func49 rfl Try.ntmps49 rfl ?_
  have hL := hp3.1
  have hJ1 := hp1.1
  have hA1 := hp1.2.1
  have hF2 := hp2.1
  refine run_sub (s' := ⟨[(0, some (true, .op 0 0 0 0)), (1, some (true, .int .i64 from_))], [(0, some (.box 83 [.int .i64 s_.mine.Junctions, .sl 7 (s_.mine.Airways.map gAirway.v), .sl 1 (s_.flows.map (V.int .i64)), .sl 4 (s_.list.map gJob.v), .int .i64 s_.budget, .os 200 s_.some_.length, .os 201 s_.best.length])), (200, some (.row 2 1 (s_.some_.map (V.int .i64)))), (201, some (.row 2 1 (s_.best.map (V.int .i64))))]⟩) (sub_of [(200, 15), (201, 16)] ⟨rfl, rfl, trivial⟩ ⟨rfl, rfl, rfl, trivial⟩ rfl) ?_
  refine run_factH (l := 200) rfl fun hl => ?_
  have l1 := hl; clear hl; simp only [List.length_map] at l1
  refine run_factH (l := 201) rfl fun hl => ?_
  have l2 := hl; clear hl; simp only [List.length_map] at l2
  refine run_seq ?_
  refine run_seq ?_
  refine run_region (q_move .n (.t rfl) rfl <|
      q_nilc_ow .n (.t rfl) rfl <|
      q_fld_ow .n (.t rfl) fo_83_3 rfl <|
      q_ld1_ow .n (.t rfl) rfl (.inr rfl) (fun _ => rfl) rfl ic_2 rfl <|
      q_int .n (.t rfl) (.c rfl) rfl rfl <|
      q_nilc_ow .n (.t rfl) rfl <|
      q_fld_ow .n (.t rfl) fo_83_3 rfl <|
      q_st_boxm [.int .i64 s_.mine.Junctions, .sl 7 (s_.mine.Airways.map gAirway.v), .sl 1 (s_.flows.map (V.int .i64)), .sl 4 (s_.list.map gJob.v), .int .i64 (IntKind.wrap .i64 (s_.budget - 1)), .os 200 s_.some_.length, .os 201 s_.best.length] .n rfl (.t rfl) (.t rfl) rfl ts_2 rfl rfl <|
      Lex.nil) ?_
  refine run_seq ?_
  refine run_region (q_move .n (.t rfl) rfl <|
      q_nilc_ow .n (.t rfl) rfl <|
      q_fld_ow .n (.t rfl) fo_83_3 rfl <|
      q_ld1_ow .n (.t rfl) rfl (.inr rfl) (fun _ => rfl) rfl ic_2 rfl <|
      q_int .n (.t rfl) (.c rfl) rfl rfl <|
      Lex.nil) ?_
  refine run_cond (.t rfl) rfl (fun h3 => ?_) (fun h3 => ?_)
  · try simp only [Bool.and_eq_true, Bool.or_eq_true, Bool.not_eq_true', Bool.and_eq_false_iff, Bool.or_eq_false_iff, Bool.not_eq_false', decide_eq_true_eq, decide_eq_false_iff_not, beq_iff_eq, bne_iff_ne, beq_eq_false_iff_ne, bne_eq_false_iff_eq, Bool.true_and, ne_eq, Decidable.not_not, Int.not_lt, Int.not_le, Nat.not_lt, Nat.not_le, strB_nil, strB_nil', strB_nnil, strB_nnil'] at h3
    exact run_ret [(100, 200), (101, 201)] .nil rfl ⟨rfl, rfl, rfl, trivial⟩ rfl
  · try simp only [Bool.and_eq_true, Bool.or_eq_true, Bool.not_eq_true', Bool.and_eq_false_iff, Bool.or_eq_false_iff, Bool.not_eq_false', decide_eq_true_eq, decide_eq_false_iff_not, beq_iff_eq, bne_iff_ne, beq_eq_false_iff_ne, bne_eq_false_iff_eq, Bool.true_and, ne_eq, Decidable.not_not, Int.not_lt, Int.not_le, Nat.not_lt, Nat.not_le, strB_nil, strB_nil', strB_nnil, strB_nnil'] at h3
    refine run_skip ?_
    refine run_seq ?_
    refine run_seq ?_
    refine run_draw fmo (q_move .n (.t rfl) rfl <|
        q_nilc_ow .n (.t rfl) rfl <|
        q_fld_ow .n (.t rfl) fo_83_4 rfl <|
        q_ld1_ow .n (.t rfl) rfl (.inr rfl) (fun _ => rfl) rfl ic_25 rfl <|
        q_len .n (.t rfl) rfl rfl ss_25 rfl <|
        q_move .n (.t rfl) rfl <|
        q_nilc_ow .n (.t rfl) rfl <|
        q_fld_ow .n (.t rfl) fo_83_5 rfl <|
        q_ld1_ow .n (.t rfl) rfl (.inr rfl) (fun _ => rfl) rfl ic_25 rfl <|
        q_len .n (.t rfl) rfl rfl ss_25 rfl <|
        q_int .n (.t rfl) (.t rfl) rfl rfl <|
        Lex.nil) (by kernel_rfl) ?_
    refine run_join _ _ rfl (fun v4 : (List Int) => True) (fun v4 => ⟨[(0, some (true, .op 0 0 0 0)), (1, some (true, .int .i64 from_))], [(0, some (.box 83 [.int .i64 s_.mine.Junctions, .sl 7 (s_.mine.Airways.map gAirway.v), .sl 1 (s_.flows.map (V.int .i64)), .sl 4 (s_.list.map gJob.v), .int .i64 (IntKind.wrap .i64 (s_.budget - 1)), .os 200 s_.some_.length, .os 202 v4.length])), (200, some (.row 2 1 (s_.some_.map (V.int .i64)))), (202, some (.row 2 1 (v4.map (V.int .i64))))]⟩) (fun v4 _ => ?_) (fun j5 hj6 => ?_)
    · refine run_seq ?_
      refine run_region (q_move .n (.t rfl) rfl <|
          q_assign .n (.t rfl) rfl <|
          Lex.nil) ?_
      refine run_block ?_
      refine run_LOOP (m_impl_jobSearch_visit_b1 self_ s_ from_ v4) _ _ _ rfl (fun (x1 : Int × (List Int) × (List Int) × Int) => from_ ≤ x1.2.2.2 ∧ x1.2.2.2 ≤ (s_.list.length : Int) ∧ x1.2.1 = s_.some_ ∧ from_ ≤ x1.2.2.2) (fun x1 => from_ ≤ x1.2.2.2 ∧ x1.2.2.2 ≤ (s_.list.length : Int) ∧ x1.2.1 = s_.some_ ∧ from_ ≤ x1.2.2.2 ∧ (s_.list.length : Int) ≤ x1.2.2.2) (fun x1 => ((s_.list.length : Int) - x1.2.2.2 : Int).toNat) (fun x1 => ⟨[(0, some (true, .op 0 0 0 0)), (4, some (true, .int .i64 x1.2.2.2))], [(0, some (.box 83 [.int .i64 s_.mine.Junctions, .sl 7 (s_.mine.Airways.map gAirway.v), .sl 1 (s_.flows.map (V.int .i64)), .sl 4 (s_.list.map gJob.v), .int .i64 x1.1, .os 200 x1.2.1.length, .os 202 x1.2.2.1.length])), (200, some (.row 2 1 (x1.2.1.map (V.int .i64)))), (202, some (.row 2 1 (x1.2.2.1.map (V.int .i64))))]⟩) (fun x1 => ⟨[], [(0, some (.box 83 [.int .i64 s_.mine.Junctions, .sl 7 (s_.mine.Airways.map gAirway.v), .sl 1 (s_.flows.map (V.int .i64)), .sl 4 (s_.list.map gJob.v), .int .i64 x1.1, .os 200 x1.2.1.length, .os 202 x1.2.2.1.length])), (200, some (.row 2 1 (x1.2.1.map (V.int .i64)))), (202, some (.row 2 1 (x1.2.2.1.map (V.int .i64))))]⟩) ⟨by (simp only [List.length_append, List.length_cons, List.length_nil, List.length_replicate, put_len] at * <;> omega), by (simp only [List.length_append, List.length_cons, List.length_nil, List.length_replicate, put_len] at * <;> omega), by (simp only [List.length_append, List.length_cons, List.length_nil, List.length_replicate, put_len] at * <;> omega), by (simp only [List.length_append, List.length_cons, List.length_nil, List.length_replicate, put_len] at * <;> omega)⟩ (by (simp only [List.length_append, List.length_cons, List.length_nil, List.length_replicate, put_len] at * <;> omega)) (sub_of [] ⟨rfl, rfl, trivial⟩ ⟨rfl, rfl, rfl, trivial⟩ rfl) ?_ ?_
      · intro x1 i19
        obtain ⟨e20, e21, e22, e23, e24⟩ := i19
        try dsimp only at *
        exact run_end [(100, 200), (101, 202)] .nil rfl ⟨rfl, rfl, rfl, trivial⟩ rfl
      · intro rec1 k1 hk8 x1 i9
        obtain ⟨e25, e26, e27, e28⟩ := i9
        try dsimp only at *
        refine run_seq ?_
        refine run_seq ?_
        refine run_region (q_move .n (.t rfl) rfl <|
            q_move .n (.t rfl) rfl <|
            q_nilc_ow .n (.t rfl) rfl <|
            q_fld_ow .n (.t rfl) fo_83_2 rfl <|
            q_ld1_ow .n (.t rfl) rfl (.inr rfl) (fun _ => rfl) rfl ic_36 rfl <|
            q_len .n (.t rfl) rfl len_map ss_36 rfl <|
            q_int .n (.t rfl) (.t rfl) rfl rfl <|
            Lex.nil) ?_
        refine run_fact (t := 41) rfl fun hl => ?_
        have l10 := hl; clear hl; simp only [List.length_map] at l10
        refine run_cond (.t rfl) rfl (fun h11 => ?_) (fun h11 => ?_)
        · try simp only [Bool.and_eq_true, Bool.or_eq_true, Bool.not_eq_true', Bool.and_eq_false_iff, Bool.or_eq_false_iff, Bool.not_eq_false', decide_eq_true_eq, decide_eq_false_iff_not, beq_iff_eq, bne_iff_ne, beq_eq_false_iff_ne, bne_eq_false_iff_eq, Bool.true_and, ne_eq, Decidable.not_not, Int.not_lt, Int.not_le, Nat.not_lt, Nat.not_le, strB_nil, strB_nil', strB_nnil, strB_nnil'] at h11
          refine run_skip ?_
          refine run_seq ?_
          refine run_block ?_
          refine run_seq ?_
          refine run_region (q_move .n (.t rfl) rfl <|
              q_move .n (.t rfl) rfl <|
              q_nilc_ow .n (.t rfl) rfl <|
              q_fld_ow .n (.t rfl) fo_83_4 rfl <|
              q_ld1_ow .n (.t rfl) rfl (.inr rfl) (fun _ => rfl) rfl ic_25 rfl <|
              q_move .n (.t rfl) rfl <|
              q_bslicem ([x1.2.2.2] : List Int) (f := V.int .i64) (l := 203) .n rfl rfl (.cons (.t rfl) .nil) rfl si_25 zv_2 rfl rfl rfl <|
              q_appm (xs := x1.2.1) (ys := ([x1.2.2.2] : List Int)) (f := V.int .i64) (l := 204) .n rfl (.ow (.t rfl) rfl (take_all (by simp only [len_map, put_len] <;> rfl)) (by simp only [len_map, put_len] <;> rfl)) (.ow (.t rfl) rfl (take_all (by simp only [len_map, put_len] <;> rfl)) (by simp only [len_map, put_len] <;> rfl)) si_25 zv_2 rfl (by ((have he := (show x1.2.1 = s_.some_ by assumption); (try dsimp only); rw [he]; simp only [List.length_append, List.length_cons, List.length_nil]; omega))) rfl rfl <|
              q_nilc_ow .n (.t rfl) rfl <|
              q_fld_ow .n (.t rfl) fo_83_4 rfl <|
              q_st_boxm [.int .i64 s_.mine.Junctions, .sl 7 (s_.mine.Airways.map gAirway.v), .sl 1 (s_.flows.map (V.int .i64)), .sl 4 (s_.list.map gJob.v), .int .i64 x1.1, .os 204 (x1.2.1 ++ ([x1.2.2.2] : List Int)).length, .os 202 x1.2.2.1.length] .n rfl (.t rfl) (.t rfl) rfl ts_25 rfl rfl <|
              Lex.nil) ?_
          refine run_seq ?_
          refine run_seq ?_
          refine run_draw fmo (q_move .n (.t rfl) rfl <|
              q_nilc_ow .n (.t rfl) rfl <|
              q_fld_ow .n (.t rfl) fo_83_0 rfl <|
              q_ldN_ow .n (.t rfl) rfl (.inr rfl) ag_33 (fun _ => rfl) rfl rfl <|
              q_move .n (.t rfl) rfl <|
              q_nilc_ow .n (.t rfl) rfl <|
              q_fld_ow .n (.t rfl) fo_83_1 rfl <|
              q_ld1_ow .n (.t rfl) rfl (.inr rfl) (fun _ => rfl) rfl ic_25 rfl <|
              q_move .n (.t rfl) rfl <|
              q_nilc_ow .n (.t rfl) rfl <|
              q_fld_ow .n (.t rfl) fo_83_2 rfl <|
              q_ld1_ow .n (.t rfl) rfl (.inr rfl) (fun _ => rfl) rfl ic_36 rfl <|
              q_move .n (.t rfl) rfl <|
              q_nilc_ow .n (.t rfl) rfl <|
              q_fld_ow .n (.t rfl) fo_83_4 rfl <|
              q_ld1_ow .n (.t rfl) rfl (.inr rfl) (fun _ => rfl) rfl ic_25 rfl <|
              q_callM (full := true) [] [(100, 205)] .n rfl .f en_81 (.cons (.t rfl) (.cons (.t rfl) .nil)) (.cons (.b (.a (.same rfl))) (.cons (.b (.a (.own rfl rfl rfl (take_all (by simp only [len_map, put_len] <;> rfl)) (by simp only [len_map, put_len] <;> rfl)))) .nil)) (c_impl_jobsOf s_.list (x1.2.1 ++ ([x1.2.2.2] : List Int)) (by ((have he := (show x1.2.1 = s_.some_ by assumption); intro y hy; (try dsimp only at hy); simp only [he, List.mem_append, List.mem_singleton] at hy; rcases hy with hy | hy; exact hp5 y hy; (try dsimp only); omega))) (by ((have he := (show x1.2.1 = s_.some_ by assumption); (try dsimp only); rw [he]; simp only [List.length_append, List.length_cons, List.length_nil]; omega)))) trivial rfl rfl (fun _ => rfl) (fun _ => (hr_row (fun _ => rfl) hr_nil)) rfl <|
              q_call0 (full := true) .n .f en_58 (.cons (.t rfl) (.cons (.t rfl) (.cons (.t rfl) .nil))) (.cons (.sts rfl) (.cons (.b (.a (.same rfl))) (.cons (.b (.a (.own rfl rfl rfl (take_all (by simp only [len_map, put_len] <;> rfl)) (by simp only [len_map, put_len] <;> rfl)))) .nil))) (fun hg => c_impl_Mine_fitJobs s_.mine s_.flows (m_impl_jobsOf s_.list (x1.2.1 ++ ([x1.2.2.2] : List Int))) (by omega) (by omega) (by ((have he := (show x1.2.1 = s_.some_ by assumption); exact jobsOf_all hp3.air (fun y hy => by simp only [he, List.mem_append, List.mem_singleton] at hy; rcases hy with hy | hy; exact hp5 y hy; omega))))) rfl (fun _ => rfl) rfl <|
              Lex.nil) (by kernel_rfl) ?_
          refine run_join _ _ rfl (fun v12 : Int × (List Int) × (List Int) => v12.2.1 = s_.some_ ++ ([x1.2.2.2] : List Int)) (fun v12 => ⟨[(0, some (true, .op 0 0 0 0)), (4, some (true, .int .i64 x1.2.2.2))], [(0, some (.box 83 [.int .i64 s_.mine.Junctions, .sl 7 (s_.mine.Airways.map gAirway.v), .sl 1 (s_.flows.map (V.int .i64)), .sl 4 (s_.list.map gJob.v), .int .i64 v12.1, .os 206 v12.2.1.length, .os 207 v12.2.2.length])), (206, some (.row 2 1 (v12.2.1.map (V.int .i64)))), (207, some (.row 2 1 (v12.2.2.map (V.int .i64))))]⟩) (fun v12 hv17 => ?_) (fun j13 hj14 => ?_)
          · have e18 := hv17
            refine run_seq ?_
            refine run_draw fmo (q_move .n (.t rfl) rfl <|
                q_move .n (.t rfl) rfl <|
                q_nilc_ow .n (.t rfl) rfl <|
                q_fld_ow .n (.t rfl) fo_83_4 rfl <|
                q_ld1_ow .n (.t rfl) rfl (.inr rfl) (fun _ => rfl) rfl ic_25 rfl <|
                q_move .n (.t rfl) rfl <|
                q_nilc_ow .n (.t rfl) rfl <|
                q_fld_ow .n (.t rfl) fo_83_4 rfl <|
                q_ld1_ow .n (.t rfl) rfl (.inr rfl) (fun _ => rfl) rfl ic_25 rfl <|
                q_len .n (.t rfl) rfl rfl ss_25 rfl <|
                q_int .n (.t rfl) (.c rfl) rfl rfl <|
                q_cut_owm (xs := v12.2.1) (b := (IntKind.wrap .i64 ((v12.2.1.length : Int) - 1))) .n (.t rfl) (.s (.t rfl)) sl_25 (fun _ => by ((rw [show v12.2.1 = s_.some_ ++ ([x1.2.2.2] : List Int) by assumption]; simp only [List.length_append, List.length_cons, List.length_nil]; rw [wr64 (by omega)]; omega))) rfl <|
                q_nilc_ow .n (.t rfl) rfl <|
                q_fld_ow .n (.t rfl) fo_83_4 rfl <|
                q_st_boxm [.int .i64 s_.mine.Junctions, .sl 7 (s_.mine.Airways.map gAirway.v), .sl 1 (s_.flows.map (V.int .i64)), .sl 4 (s_.list.map gJob.v), .int .i64 v12.1, .os 206 (pre' v12.2.1 (IntKind.wrap .i64 ((v12.2.1.length : Int) - 1))).length, .os 207 v12.2.2.length] .n rfl (.t rfl) (.t rfl) rfl ts_25 rfl rfl <|
                Lex.nil) (by kernel_rfl) ?_
            refine run_shrink (f := V.int .i64) (xs := v12.2.1) (l := 206) (IntKind.wrap .i64 ((v12.2.1.length : Int) - 1)) rfl ?_
            refine run_seq ?_
            refine run_region (q_move .n (.t rfl) rfl <|
                q_nilc_ow .n (.t rfl) rfl <|
                q_fld_ow .n (.t rfl) fo_83_3 rfl <|
                q_ld1_ow .n (.t rfl) rfl (.inr rfl) (fun _ => rfl) rfl ic_2 rfl <|
                q_int .n (.t rfl) (.c rfl) rfl rfl <|
                Lex.nil) ?_
            refine run_cond (.t rfl) rfl (fun h16 => ?_) (fun h16 => ?_)
            · try simp only [Bool.and_eq_true, Bool.or_eq_true, Bool.not_eq_true', Bool.and_eq_false_iff, Bool.or_eq_false_iff, Bool.not_eq_false', decide_eq_true_eq, decide_eq_false_iff_not, beq_iff_eq, bne_iff_ne, beq_eq_false_iff_ne, bne_eq_false_iff_eq, Bool.true_and, ne_eq, Decidable.not_not, Int.not_lt, Int.not_le, Nat.not_lt, Nat.not_le, strB_nil, strB_nil', strB_nnil, strB_nnil'] at h16
              exact run_ret [(100, 206), (101, 207)] .nil rfl ⟨rfl, rfl, rfl, trivial⟩ rfl
            · try simp only [Bool.and_eq_true, Bool.or_eq_true, Bool.not_eq_true', Bool.and_eq_false_iff, Bool.or_eq_false_iff, Bool.not_eq_false', decide_eq_true_eq, decide_eq_false_iff_not, beq_iff_eq, bne_iff_ne, beq_eq_false_iff_ne, bne_eq_false_iff_eq, Bool.true_and, ne_eq, Decidable.not_not, Int.not_lt, Int.not_le, Nat.not_lt, Nat.not_le, strB_nil, strB_nil', strB_nnil, strB_nnil'] at h16
              refine run_skip ?_
              refine run_endB ?_
              refine run_region (q_move .n (.t rfl) rfl <|
                  q_add .n (.t rfl) (.c rfl) (fun _ => by omega) rfl <|
                  q_assign .n (.t rfl) rfl <|
                  Lex.nil) ?_
              exact run_again (v12.1, pre' v12.2.1 (IntKind.wrap .i64 ((v12.2.1.length : Int) - 1)), v12.2.2, x1.2.2.2 + 1) ⟨by (simp only [List.length_append, List.length_cons, List.length_nil, List.length_replicate, put_len] at * <;> omega), by assumption, by ((rw [show v12.2.1 = s_.some_ ++ ([x1.2.2.2] : List Int) by assumption]; exact app_cut (by omega))), by (simp only [List.length_append, List.length_cons, List.length_nil, List.length_replicate, put_len] at * <;> omega)⟩ (by (simp only [List.length_append, List.length_cons, List.length_nil, List.length_replicate, put_len] at * <;> omega)) (sub_of [(200, 206), (202, 207)] ⟨rfl, rfl, trivial⟩ ⟨rfl, rfl, rfl, trivial⟩ rfl)
          · refine run_cond (.t rfl) rfl (fun h15 => ?_) (fun h15 => ?_)
            · try simp only [Bool.and_eq_true, Bool.or_eq_true, Bool.not_eq_true', Bool.and_eq_false_iff, Bool.or_eq_false_iff, Bool.not_eq_false', decide_eq_true_eq, decide_eq_false_iff_not, beq_iff_eq, bne_iff_ne, beq_eq_false_iff_ne, bne_eq_false_iff_eq, Bool.true_and, ne_eq, Decidable.not_not, Int.not_lt, Int.not_le, Nat.not_lt, Nat.not_le, strB_nil, strB_nil', strB_nnil, strB_nnil'] at h15
              refine run_region (q_move .n (.t rfl) rfl <|
                  q_move .n (.t rfl) rfl <|
                  q_add .n (.t rfl) (.c rfl) (fun _ => by omega) rfl <|
                  q_callM (full := false) [(0, 0), (15, 204), (16, 202)] [(100, 206), (101, 207)] .n rfl .f en_49 (.cons (.t rfl) (.cons (.t rfl) .nil)) (.cons (.b (.mutp rfl)) (.cons (.b (.a (.same rfl))) .nil)) (ih (gjobSearch.mk s_.mine s_.flows s_.list x1.1 (x1.2.1 ++ ([x1.2.2.2] : List Int)) x1.2.2.1) (x1.2.2.2 + 1) (by omega) (by omega) (by omega) (by (simp only [List.length_append, List.length_cons, List.length_nil, List.length_replicate, put_len] at * <;> omega)) (by ((have he := (show x1.2.1 = s_.some_ by assumption); intro y hy; (try dsimp only at hy); simp only [he, List.mem_append, List.mem_singleton] at hy; rcases hy with hy | hy; exact hp5 y hy; (try dsimp only); omega))) (by ((have he := (show x1.2.1 = s_.some_ by assumption); (try dsimp only); rw [he]; simp only [List.length_append, List.length_cons, List.length_nil]; omega))) (by (simp only [List.length_append, List.length_cons, List.length_nil, List.length_replicate, put_len] at * <;> omega))) ⟨rfl, rfl, rfl, trivial⟩ rfl rfl (fun h => Bool.noConfusion h) (fun h => Bool.noConfusion h) rfl <|
                  Lex.nil) ?_
              exact run_cont hj14 ((self_ (gjobSearch.mk s_.mine s_.flows s_.list x1.1 (x1.2.1 ++ ([x1.2.2.2] : List Int)) x1.2.2.1) (x1.2.2.2 + 1)).budget, (self_ (gjobSearch.mk s_.mine s_.flows s_.list x1.1 (x1.2.1 ++ ([x1.2.2.2] : List Int)) x1.2.2.1) (x1.2.2.2 + 1)).some_, (self_ (gjobSearch.mk s_.mine s_.flows s_.list x1.1 (x1.2.1 ++ ([x1.2.2.2] : List Int)) x1.2.2.1) (x1.2.2.2 + 1)).best) (by ((have he := (show x1.2.1 = s_.some_ by assumption); (try dsimp only); rw [hself _ _ (by simp only [List.length_append, List.length_cons, List.length_nil, he]; omega) (by omega) (by dsimp only; omega) (by dsimp only; omega) (by dsimp only; omega)]; dsimp only; rw [he]))) (sub_of [] ⟨rfl, rfl, trivial⟩ ⟨rfl, rfl, rfl, trivial⟩ rfl)
            · try simp only [Bool.and_eq_true, Bool.or_eq_true, Bool.not_eq_true', Bool.and_eq_false_iff, Bool.or_eq_false_iff, Bool.not_eq_false', decide_eq_true_eq, decide_eq_false_iff_not, beq_iff_eq, bne_iff_ne, beq_eq_false_iff_ne, bne_eq_false_iff_eq, Bool.true_and, ne_eq, Decidable.not_not, Int.not_lt, Int.not_le, Nat.not_lt, Nat.not_le, strB_nil, strB_nil', strB_nnil, strB_nnil'] at h15
              refine run_skip ?_
              exact run_cont hj14 (x1.1, x1.2.1 ++ ([x1.2.2.2] : List Int), x1.2.2.1) (by ((have he := (show x1.2.1 = s_.some_ by assumption); (try dsimp only); rw [he]))) (sub_of [(206, 204), (207, 202)] ⟨rfl, rfl, trivial⟩ ⟨rfl, rfl, rfl, trivial⟩ rfl)
        · try simp only [Bool.and_eq_true, Bool.or_eq_true, Bool.not_eq_true', Bool.and_eq_false_iff, Bool.or_eq_false_iff, Bool.not_eq_false', decide_eq_true_eq, decide_eq_false_iff_not, beq_iff_eq, bne_iff_ne, beq_eq_false_iff_ne, bne_eq_false_iff_eq, Bool.true_and, ne_eq, Decidable.not_not, Int.not_lt, Int.not_le, Nat.not_lt, Nat.not_le, strB_nil, strB_nil', strB_nnil, strB_nnil'] at h11
          refine run_exit rfl ?_
          exact run_cont hk8 (x1.1, x1.2.1, x1.2.2.1, x1.2.2.2) ⟨by omega, by omega, by omega, by omega, by omega⟩ (sub_of [] trivial ⟨rfl, rfl, rfl, trivial⟩ rfl)
    · refine run_cond (.t rfl) rfl (fun h7 => ?_) (fun h7 => ?_)
      · try simp only [Bool.and_eq_true, Bool.or_eq_true, Bool.not_eq_true', Bool.and_eq_false_iff, Bool.or_eq_false_iff, Bool.not_eq_false', decide_eq_true_eq, decide_eq_false_iff_not, beq_iff_eq, bne_iff_ne, beq_eq_false_iff_ne, bne_eq_false_iff_eq, Bool.true_and, ne_eq, Decidable.not_not, Int.not_lt, Int.not_le, Nat.not_lt, Nat.not_le, strB_nil, strB_nil', strB_nnil, strB_nnil'] at h7
        refine run_region (q_move .n (.t rfl) rfl <|
            q_move .n (.t rfl) rfl <|
            q_nilc_ow .n (.t rfl) rfl <|
            q_fld_ow .n (.t rfl) fo_83_4 rfl <|
            q_ld1_ow .n (.t rfl) rfl (.inr rfl) (fun _ => rfl) rfl ic_25 rfl <|
            q_callM (full := true) [] [(100, 202)] .n rfl .f en_86 (.cons (.t rfl) .nil) (.cons (.b (.a (.own rfl rfl rfl (take_all (by simp only [len_map, put_len] <;> rfl)) (by simp only [len_map, put_len] <;> rfl)))) .nil) (c_slices_Clone_int64 s_.some_ (by omega)) trivial rfl rfl (fun _ => rfl) (fun _ => (hr_row (fun _ => rfl) hr_nil)) rfl <|
            q_nilc_ow .n (.t rfl) rfl <|
            q_fld_ow .n (.t rfl) fo_83_5 rfl <|
            q_st_boxm [.int .i64 s_.mine.Junctions, .sl 7 (s_.mine.Airways.map gAirway.v), .sl 1 (s_.flows.map (V.int .i64)), .sl 4 (s_.list.map gJob.v), .int .i64 (IntKind.wrap .i64 (s_.budget - 1)), .os 200 s_.some_.length, .os 202 (m_slices_Clone_int64 s_.some_).length] .n rfl (.t rfl) (.t rfl) rfl ts_25 rfl rfl <|
            Lex.nil) ?_
        exact run_cont hj6 (m_slices_Clone_int64 s_.some_) trivial (sub_of [] ⟨rfl, rfl, trivial⟩ ⟨rfl, rfl, rfl, trivial⟩ rfl)
      · try simp only [Bool.and_eq_true, Bool.or_eq_true, Bool.not_eq_true', Bool.and_eq_false_iff, Bool.or_eq_false_iff, Bool.not_eq_false', decide_eq_true_eq, decide_eq_false_iff_not, beq_iff_eq, bne_iff_ne, beq_eq_false_iff_ne, bne_eq_false_iff_eq, Bool.true_and, ne_eq, Decidable.not_not, Int.not_lt, Int.not_le, Nat.not_lt, Nat.not_le, strB_nil, strB_nil', strB_nnil, strB_nnil'] at h7
        refine run_skip ?_
        exact run_cont hj6 s_.best trivial (sub_of [(202, 201)] ⟨rfl, rfl, trivial⟩ ⟨rfl, rfl, rfl, trivial⟩ rfl)
theorem c_impl_jobSearch_visit (s_ : gjobSearch) (from_ : Int) (hp1 : MineIn s_.mine) (hp2 : FlowsIn s_.mine s_.flows) (hp3 : JobsIn s_.mine s_.list) (hp4 : 0 ≤ from_ ∧ from_ ≤ s_.list.length) (hp5 : ∀ y ∈ s_.some_, 0 ≤ y ∧ y < s_.list.length) (hp6 : (s_.some_.length : Int) ≤ from_) : Con Try.prog 49 [.op 0 0 0 0, .int .i64 from_] [(0, some (.box 83 [.int .i64 s_.mine.Junctions, .sl 7 (s_.mine.Airways.map gAirway.v), .sl 1 (s_.flows.map (V.int .i64)), .sl 4 (s_.list.map gJob.v), .int .i64 s_.budget, .os 15 s_.some_.length, .os 16 s_.best.length])), (15, some (.row 2 1 (s_.some_.map (V.int .i64)))), (16, some (.row 2 1 (s_.best.map (V.int .i64))))] (.tup []) ([(100, some (.row 2 1 ((m_impl_jobSearch_visit s_ from_).some_.map (V.int .i64)))), (101, some (.row 2 1 ((m_impl_jobSearch_visit s_ from_).best.map (V.int .i64)))), (0, some (.box 83 [.int .i64 s_.mine.Junctions, .sl 7 (s_.mine.Airways.map gAirway.v), .sl 1 (s_.flows.map (V.int .i64)), .sl 4 (s_.list.map gJob.v), .int .i64 (m_impl_jobSearch_visit s_ from_).budget, .os 100 (m_impl_jobSearch_visit s_ from_).some_.length, .os 101 (m_impl_jobSearch_visit s_ from_).best.length]))]) := by
  exact c_impl_jobSearch_visit_n (((s_.list.length : Int) - from_).toNat + 1) s_ from_ hp1 hp2 hp3 hp4 hp5 hp6 (by omega)


/-! ### impl_MostJobs -/
theorem c_impl_MostJobs (m_ : gMine) (flows : List Int) (list : List gJob) (budget : Int) : Con Try.prog 13 [.st [.int .i64 m_.Junctions, .sl 7 (m_.Airways.map gAirway.v)], .sl 1 (flows.map (V.int .i64)), .sl 4 (list.map gJob.v), .int .i64 budget] [] (.tup [.os 100 (m_impl_MostJobs m_ flows list budget).1.length, .int .i64 (m_impl_MostJobs m_ flows list budget).2]) ([(100, some (.row 2 1 ((m_impl_MostJobs m_ flows list budget).1.map (V.int .i64))))]) := by
  refine con_intro (out := fun r : (List Int) × Int => ((.tup [.os 100 r.1.length, .int .i64 r.2] : V), ([(100, some (.row 2 1 (r.1.map (V.int .i64))))] : List (Nat × Option O)))) (r := (m_impl_MostJobs m_ flows list budget)) Try.func13 rfl Try.ntmps13 rfl ?_
  refine run_factS (t := 0) 1 rfl rfl fun hl => ?_
  have l1 := hl; clear hl; simp only [List.length_map] at l1
  refine run_fact (t := 1) rfl fun hl => ?_
  have l2 := hl; clear hl; simp only [List.length_map] at l2
  refine run_fact (t := 2) rfl fun hl => ?_
  have l3 := hl; clear hl; simp only [List.length_map] at l3
  refine run_seq ?_
  refine run_region (q_box (l := 200) .n rfl (.t rfl) rfl rfl rfl rfl <|
      q_assign .n (.c rfl) rfl <|
      q_assign .n (.c rfl) rfl <|
      Lex.nil) ?_
  refine run_seq ?_
  refine run_region (q_ldN_ow .n (.t rfl) rfl (.inr rfl) ag_33 (fun _ => rfl) rfl rfl <|
      q_move .n (.t rfl) rfl <|
      q_move .n (.t rfl) rfl <|
      q_call0 (full := false) .n .f en_47 (.cons (.t rfl) (.cons (.t rfl) (.cons (.t rfl) .nil))) (.cons (.sts rfl) (.cons (.b (.a (.same rfl))) (.cons (.b (.a (.same rfl))) .nil))) (fun hg => c_impl_jobsCode m_ flows list) rfl (fun h => Bool.noConfusion h) rfl <|
      q_assign .n (.t rfl) rfl <|
      Lex.nil) ?_
  refine run_seq ?_
  refine run_block ?_
  refine run_seq ?_
  refine run_region (q_move .n (.t rfl) rfl <|
      q_int .n (.t rfl) (.c rfl) rfl rfl <|
      q_assign .n (.t rfl) rfl <|
      Lex.nil) ?_
  refine run_cond (.t rfl) rfl (fun h4 => ?_) (fun h4 => ?_)
  · try simp only [Bool.and_eq_true, Bool.or_eq_true, Bool.not_eq_true', Bool.and_eq_false_iff, Bool.or_eq_false_iff, Bool.not_eq_false', decide_eq_true_eq, decide_eq_false_iff_not, beq_iff_eq, bne_iff_ne, beq_eq_false_iff_ne, bne_eq_false_iff_eq, Bool.true_and, ne_eq, Decidable.not_not, Int.not_lt, Int.not_le, Nat.not_lt, Nat.not_le, strB_nil, strB_nil', strB_nnil, strB_nnil'] at h4
    try have hf0h4 := jobsCode_impM h4
    try have hf1h4 := jobsCode_impM h4.1
    try have hf2h4 := jobsCode_impM h4.2
    try have hf3h4 := jobsCode_impM h4.1.1
    try have hf4h4 := jobsCode_impM h4.1.2
    try have hf5h4 := jobsCode_impM h4.2.1
    try have hf6h4 := jobsCode_impM h4.2.2
    try have hf7h4 := jobsCode_impF h4
    try have hf8h4 := jobsCode_impF h4.1
    try have hf9h4 := jobsCode_impF h4.2
    try have hf10h4 := jobsCode_impF h4.1.1
    try have hf11h4 := jobsCode_impF h4.1.2
    try have hf12h4 := jobsCode_impF h4.2.1
    try have hf13h4 := jobsCode_impF h4.2.2
    try have hf14h4 := jobsCode_impS h4
    try have hf15h4 := jobsCode_impS h4.1
    try have hf16h4 := jobsCode_impS h4.2
    try have hf17h4 := jobsCode_impS h4.1.1
    try have hf18h4 := jobsCode_impS h4.1.2
    try have hf19h4 := jobsCode_impS h4.2.1
    try have hf20h4 := jobsCode_impS h4.2.2
    try have hf21h4 := jobsCode_impJ h4
    try have hf22h4 := jobsCode_impJ h4.1
    try have hf23h4 := jobsCode_impJ h4.2
    try have hf24h4 := jobsCode_impJ h4.1.1
    try have hf25h4 := jobsCode_impJ h4.1.2
    try have hf26h4 := jobsCode_impJ h4.2.1
    try have hf27h4 := jobsCode_impJ h4.2.2
    refine run_seq ?_
    refine run_region (q_move .n (.t rfl) rfl <|
        q_assign .n (.c rfl) rfl <|
        q_assign .n (.t rfl) rfl <|
        Lex.nil) ?_
    refine run_sub (sub_adopt (t := 8) (l := 201) (el := 2) (sz := 1) rfl rfl) ?_
    exact run_ret [(100, 201)] (.cons (.t rfl rfl) (.cons (.t rfl rfl) .nil)) (by first | rfl | (simp only [put_len]; rfl)) ⟨rfl, trivial⟩ rfl
  · try simp only [Bool.and_eq_true, Bool.or_eq_true, Bool.not_eq_true', Bool.and_eq_false_iff, Bool.or_eq_false_iff, Bool.not_eq_false', decide_eq_true_eq, decide_eq_false_iff_not, beq_iff_eq, bne_iff_ne, beq_eq_false_iff_ne, bne_eq_false_iff_eq, Bool.true_and, ne_eq, Decidable.not_not, Int.not_lt, Int.not_le, Nat.not_lt, Nat.not_le, strB_nil, strB_nil', strB_nnil, strB_nnil'] at h4
    try have hf0h4 := jobsCode_impM h4
    try have hf1h4 := jobsCode_impM h4.1
    try have hf2h4 := jobsCode_impM h4.2
    try have hf3h4 := jobsCode_impM h4.1.1
    try have hf4h4 := jobsCode_impM h4.1.2
    try have hf5h4 := jobsCode_impM h4.2.1
    try have hf6h4 := jobsCode_impM h4.2.2
    try have hf7h4 := jobsCode_impF h4
    try have hf8h4 := jobsCode_impF h4.1
    try have hf9h4 := jobsCode_impF h4.2
    try have hf10h4 := jobsCode_impF h4.1.1
    try have hf11h4 := jobsCode_impF h4.1.2
    try have hf12h4 := jobsCode_impF h4.2.1
    try have hf13h4 := jobsCode_impF h4.2.2
    try have hf14h4 := jobsCode_impS h4
    try have hf15h4 := jobsCode_impS h4.1
    try have hf16h4 := jobsCode_impS h4.2
    try have hf17h4 := jobsCode_impS h4.1.1
    try have hf18h4 := jobsCode_impS h4.1.2
    try have hf19h4 := jobsCode_impS h4.2.1
    try have hf20h4 := jobsCode_impS h4.2.2
    try have hf21h4 := jobsCode_impJ h4
    try have hf22h4 := jobsCode_impJ h4.1
    try have hf23h4 := jobsCode_impJ h4.2
    try have hf24h4 := jobsCode_impJ h4.1.1
    try have hf25h4 := jobsCode_impJ h4.1.2
    try have hf26h4 := jobsCode_impJ h4.2.1
    try have hf27h4 := jobsCode_impJ h4.2.2
    refine run_seq ?_
    refine run_region (q_move .n (.t rfl) rfl <|
        q_call0 (full := false) .n .f en_48 (.cons (.t rfl) .nil) (.cons (.b (.a (.same rfl))) .nil) (fun hg => c_impl_budgetValid budget) rfl (fun h => Bool.noConfusion h) rfl <|
        q_not .n (.t rfl) rfl <|
        q_assign .n (.t rfl) rfl <|
        Lex.nil) ?_
    refine run_cond (.t rfl) rfl (fun h5 => ?_) (fun h5 => ?_)
    · try simp only [Bool.and_eq_true, Bool.or_eq_true, Bool.not_eq_true', Bool.and_eq_false_iff, Bool.or_eq_false_iff, Bool.not_eq_false', decide_eq_true_eq, decide_eq_false_iff_not, beq_iff_eq, bne_iff_ne, beq_eq_false_iff_ne, bne_eq_false_iff_eq, Bool.true_and, ne_eq, Decidable.not_not, Int.not_lt, Int.not_le, Nat.not_lt, Nat.not_le, strB_nil, strB_nil', strB_nnil, strB_nnil'] at h5
      try have hf0h5 := budget_imp h5
      try have hf1h5 := budget_imp h5.1
      try have hf2h5 := budget_imp h5.2
      try have hf3h5 := budget_imp h5.1.1
      try have hf4h5 := budget_imp h5.1.2
      try have hf5h5 := budget_imp h5.2.1
      try have hf6h5 := budget_imp h5.2.2
      refine run_seq ?_
      refine run_region (q_assign .n (.c rfl) rfl <|
          q_assign .n (.c rfl) rfl <|
          Lex.nil) ?_
      refine run_sub (sub_adopt (t := 8) (l := 202) (el := 2) (sz := 1) rfl rfl) ?_
      exact run_ret [(100, 202)] (.cons (.t rfl rfl) (.cons (.t rfl rfl) .nil)) (by first | rfl | (simp only [put_len]; rfl)) ⟨rfl, trivial⟩ rfl
    · try simp only [Bool.and_eq_true, Bool.or_eq_true, Bool.not_eq_true', Bool.and_eq_false_iff, Bool.or_eq_false_iff, Bool.not_eq_false', decide_eq_true_eq, decide_eq_false_iff_not, beq_iff_eq, bne_iff_ne, beq_eq_false_iff_ne, bne_eq_false_iff_eq, Bool.true_and, ne_eq, Decidable.not_not, Int.not_lt, Int.not_le, Nat.not_lt, Nat.not_le, strB_nil, strB_nil', strB_nnil, strB_nnil'] at h5
      try have hf0h5 := budget_imp h5
      try have hf1h5 := budget_imp h5.1
      try have hf2h5 := budget_imp h5.2
      try have hf3h5 := budget_imp h5.1.1
      try have hf4h5 := budget_imp h5.1.2
      try have hf5h5 := budget_imp h5.2.1
      try have hf6h5 := budget_imp h5.2.2
      refine run_seq ?_
      refine run_region (q_move .n (.t rfl) rfl <|
          q_int .n (.t rfl) (.c rfl) rfl rfl <|
          q_assign .n (.t rfl) rfl <|
          Lex.nil) ?_
      refine run_cond (.t rfl) rfl (fun h6 => ?_) (fun h6 => ?_)
      · try simp only [Bool.and_eq_true, Bool.or_eq_true, Bool.not_eq_true', Bool.and_eq_false_iff, Bool.or_eq_false_iff, Bool.not_eq_false', decide_eq_true_eq, decide_eq_false_iff_not, beq_iff_eq, bne_iff_ne, beq_eq_false_iff_ne, bne_eq_false_iff_eq, Bool.true_and, ne_eq, Decidable.not_not, Int.not_lt, Int.not_le, Nat.not_lt, Nat.not_le, strB_nil, strB_nil', strB_nnil, strB_nnil'] at h6
        try have hf0h6 := jobsCode_impM h6
        try have hf1h6 := jobsCode_impM h6.1
        try have hf2h6 := jobsCode_impM h6.2
        try have hf3h6 := jobsCode_impM h6.1.1
        try have hf4h6 := jobsCode_impM h6.1.2
        try have hf5h6 := jobsCode_impM h6.2.1
        try have hf6h6 := jobsCode_impM h6.2.2
        try have hf7h6 := jobsCode_impF h6
        try have hf8h6 := jobsCode_impF h6.1
        try have hf9h6 := jobsCode_impF h6.2
        try have hf10h6 := jobsCode_impF h6.1.1
        try have hf11h6 := jobsCode_impF h6.1.2
        try have hf12h6 := jobsCode_impF h6.2.1
        try have hf13h6 := jobsCode_impF h6.2.2
        try have hf14h6 := jobsCode_impS h6
        try have hf15h6 := jobsCode_impS h6.1
        try have hf16h6 := jobsCode_impS h6.2
        try have hf17h6 := jobsCode_impS h6.1.1
        try have hf18h6 := jobsCode_impS h6.1.2
        try have hf19h6 := jobsCode_impS h6.2.1
        try have hf20h6 := jobsCode_impS h6.2.2
        try have hf21h6 := jobsCode_impJ h6
        try have hf22h6 := jobsCode_impJ h6.1
        try have hf23h6 := jobsCode_impJ h6.2
        try have hf24h6 := jobsCode_impJ h6.1.1
        try have hf25h6 := jobsCode_impJ h6.1.2
        try have hf26h6 := jobsCode_impJ h6.2.1
        try have hf27h6 := jobsCode_impJ h6.2.2
        refine run_seq ?_
        refine run_region (q_move .n (.t rfl) rfl <|
            q_assign .n (.c rfl) rfl <|
            q_assign .n (.t rfl) rfl <|
            Lex.nil) ?_
        refine run_sub (sub_adopt (t := 8) (l := 203) (el := 2) (sz := 1) rfl rfl) ?_
        exact run_ret [(100, 203)] (.cons (.t rfl rfl) (.cons (.t rfl rfl) .nil)) (by first | rfl | (simp only [put_len]; rfl)) ⟨rfl, trivial⟩ rfl
      · try simp only [Bool.and_eq_true, Bool.or_eq_true, Bool.not_eq_true', Bool.and_eq_false_iff, Bool.or_eq_false_iff, Bool.not_eq_false', decide_eq_true_eq, decide_eq_false_iff_not, beq_iff_eq, bne_iff_ne, beq_eq_false_iff_ne, bne_eq_false_iff_eq, Bool.true_and, ne_eq, Decidable.not_not, Int.not_lt, Int.not_le, Nat.not_lt, Nat.not_le, strB_nil, strB_nil', strB_nnil, strB_nnil'] at h6
        try have hf0h6 := jobsCode_impM h6
        try have hf1h6 := jobsCode_impM h6.1
        try have hf2h6 := jobsCode_impM h6.2
        try have hf3h6 := jobsCode_impM h6.1.1
        try have hf4h6 := jobsCode_impM h6.1.2
        try have hf5h6 := jobsCode_impM h6.2.1
        try have hf6h6 := jobsCode_impM h6.2.2
        try have hf7h6 := jobsCode_impF h6
        try have hf8h6 := jobsCode_impF h6.1
        try have hf9h6 := jobsCode_impF h6.2
        try have hf10h6 := jobsCode_impF h6.1.1
        try have hf11h6 := jobsCode_impF h6.1.2
        try have hf12h6 := jobsCode_impF h6.2.1
        try have hf13h6 := jobsCode_impF h6.2.2
        try have hf14h6 := jobsCode_impS h6
        try have hf15h6 := jobsCode_impS h6.1
        try have hf16h6 := jobsCode_impS h6.2
        try have hf17h6 := jobsCode_impS h6.1.1
        try have hf18h6 := jobsCode_impS h6.1.2
        try have hf19h6 := jobsCode_impS h6.2.1
        try have hf20h6 := jobsCode_impS h6.2.2
        try have hf21h6 := jobsCode_impJ h6
        try have hf22h6 := jobsCode_impJ h6.1
        try have hf23h6 := jobsCode_impJ h6.2
        try have hf24h6 := jobsCode_impJ h6.1.1
        try have hf25h6 := jobsCode_impJ h6.1.2
        try have hf26h6 := jobsCode_impJ h6.2.1
        try have hf27h6 := jobsCode_impJ h6.2.2
        refine run_skip ?_
        refine run_endB ?_
        refine run_seq ?_
        refine run_region (q_ldN_ow .n (.t rfl) rfl (.inr rfl) ag_33 (fun _ => rfl) rfl rfl <|
            q_move .n (.t rfl) rfl <|
            q_move .n (.t rfl) rfl <|
            q_move .n (.t rfl) rfl <|
            q_build (us := [.int .i64 m_.Junctions, .sl 7 (m_.Airways.map gAirway.v), .sl 1 (flows.map (V.int .i64)), .sl 4 (list.map gJob.v), .int .i64 budget, .nls, .nls]) .n (.cons (.t rfl) (.cons (.t rfl) (.cons (.t rfl) (.cons (.t rfl) .nil)))) zv_83 pl_83 rfl rfl rfl <|
            q_alloc (l := 204) .n rfl zv_83 rfl rfl <|
            q_st_boxm [.int .i64 m_.Junctions, .sl 7 (m_.Airways.map gAirway.v), .sl 1 (flows.map (V.int .i64)), .sl 4 (list.map gJob.v), .int .i64 budget, .nls, .nls] .n rfl (.t rfl) (.t rfl) rfl ts_83 rfl rfl <|
            Lex.nil) ?_
        refine run_seq ?_
        refine run_sub (sub_adoptb (b := 204) (l := 205) (el := 2) (sz := 1) 5 rfl rfl rfl rfl) ?_
        refine run_sub (sub_adoptb (b := 204) (l := 206) (el := 2) (sz := 1) 6 rfl rfl rfl rfl) ?_
        refine run_region (q_callM (full := false) [(0, 204), (15, 205), (16, 206)] [(100, 207), (101, 208)] .n rfl .f en_49 (.cons (.t rfl) (.cons (.c rfl) .nil)) (.cons (.b (.mutp rfl)) (.cons (.b (.a (.same rfl))) .nil)) (c_impl_jobSearch_visit (gjobSearch.mk m_ flows list budget ([] : List Int) ([] : List Int)) 0 (by omega) (by omega) (by omega) (by omega) (by ((intro y hy; exact absurd hy List.not_mem_nil))) (by (simp only [List.length_append, List.length_cons, List.length_nil, List.length_replicate, put_len] at * <;> omega))) ⟨rfl, rfl, rfl, trivial⟩ rfl rfl (fun h => Bool.noConfusion h) (fun h => Bool.noConfusion h) rfl <|
            Lex.nil) ?_
        refine run_seq ?_
        refine run_seq ?_
        refine run_region (q_fld_ow .n (.t rfl) fo_83_3 rfl <|
            q_ld1_ow .n (.t rfl) rfl (.inr rfl) (fun _ => rfl) rfl ic_2 rfl <|
            q_int .n (.t rfl) (.c rfl) rfl rfl <|
            Lex.nil) ?_
        refine run_cond (.t rfl) rfl (fun h7 => ?_) (fun h7 => ?_)
        · try simp only [Bool.and_eq_true, Bool.or_eq_true, Bool.not_eq_true', Bool.and_eq_false_iff, Bool.or_eq_false_iff, Bool.not_eq_false', decide_eq_true_eq, decide_eq_false_iff_not, beq_iff_eq, bne_iff_ne, beq_eq_false_iff_ne, bne_eq_false_iff_eq, Bool.true_and, ne_eq, Decidable.not_not, Int.not_lt, Int.not_le, Nat.not_lt, Nat.not_le, strB_nil, strB_nil', strB_nnil, strB_nnil'] at h7
          refine run_seq ?_
          refine run_region (q_assign .n (.c rfl) rfl <|
              q_assign .n (.c rfl) rfl <|
              Lex.nil) ?_
          refine run_sub (sub_adopt (t := 8) (l := 209) (el := 2) (sz := 1) rfl rfl) ?_
          exact run_ret [(100, 209)] (.cons (.t rfl rfl) (.cons (.t rfl rfl) .nil)) (by first | rfl | (simp only [put_len]; rfl)) ⟨rfl, trivial⟩ rfl
        · try simp only [Bool.and_eq_true, Bool.or_eq_true, Bool.not_eq_true', Bool.and_eq_false_iff, Bool.or_eq_false_iff, Bool.not_eq_false', decide_eq_true_eq, decide_eq_false_iff_not, beq_iff_eq, bne_iff_ne, beq_eq_false_iff_ne, bne_eq_false_iff_eq, Bool.true_and, ne_eq, Decidable.not_not, Int.not_lt, Int.not_le, Nat.not_lt, Nat.not_le, strB_nil, strB_nil', strB_nnil, strB_nnil'] at h7
          refine run_skip ?_
          refine run_seq ?_
          refine run_region (q_fld_ow .n (.t rfl) fo_83_5 rfl <|
              q_ld1_ow .n (.t rfl) rfl (.inr rfl) (fun _ => rfl) rfl ic_25 rfl <|
              q_assign .n (.t rfl) rfl <|
              q_assign .n (.c rfl) rfl <|
              Lex.nil) ?_
          exact run_ret [(100, 208)] (.cons (.t rfl rfl) (.cons (.t rfl rfl) .nil)) (by first | rfl | (simp only [put_len]; rfl)) ⟨rfl, trivial⟩ rfl

/-! ### slices_IndexFunc_impl_Job -/
theorem c_slices_IndexFunc_impl_Job (s_ : List gJob) (f : gJob → Bool) (F_f : FuncId) (C_f : List V) (he_f : entB Try.prog F_f = true) (hr_f : C_f.all V.ro = true) (Q_f : gJob → Prop) (hc_f : ∀ (a0 : gJob), Q_f a0 → Con Try.prog F_f ([.st [.str a0.Id, .int .i64 a0.Airway, .int .i64 a0.People, .int .i64 a0.Power]] ++ C_f) [] (.bool (f a0)) []) (hp1 : ∀ x ∈ s_, Q_f x) : Con Try.prog 92 [.sl 4 (s_.map gJob.v), .clo F_f C_f] [] (.int .i64 (m_slices_IndexFunc_impl_Job s_ f)) ([]) := by
  refine con_intro (out := fun r : Int => ((.int .i64 r : V), ([] : List (Nat × Option O)))) (r := (m_slices_IndexFunc_impl_Job s_ f)) Try.func92 rfl Try.ntmps92 rfl ?_
  refine run_fact (t := 0) rfl fun hl => ?_
  have l1 := hl; clear hl; simp only [List.length_map] at l1
  refine run_seq ?_
  refine run_region (q_assign .n (.c rfl) rfl <|
      Lex.nil) ?_
  refine run_seq ?_
  refine run_seq ?_
  refine run_region (q_move .n (.t rfl) rfl <|
      q_len .n (.t rfl) rfl len_map ss_36 rfl <|
      q_move .n (.c rfl) rfl <|
      Lex.nil) ?_
  refine run_block ?_
  refine run_LOOP (m_slices_IndexFunc_impl_Job_b1 s_ f) _ _ _ rfl (fun (x1 : Int) => 0 ≤ x1 ∧ x1 ≤ (s_.length : Int)) (fun x1 => 0 ≤ x1 ∧ x1 ≤ (s_.length : Int) ∧ (s_.length : Int) ≤ x1) (fun x1 => ((s_.length : Int) - x1 : Int).toNat) (fun x1 => ⟨[(0, some (true, .sl 4 (s_.map gJob.v))), (1, some (true, .clo F_f C_f)), (7, some (true, .int .i64 (s_.length : Int))), (8, some (true, .int .i64 x1))], []⟩) (fun x1 => ⟨[], []⟩) ⟨by omega, by omega⟩ (by omega) (sub_of [] ⟨rfl, clo_ren hr_f rfl, rfl, rfl, trivial⟩ trivial rfl) ?_ ?_
  · intro x1 i6
    obtain ⟨e7, e8, e9⟩ := i6
    try dsimp only at *
    refine run_seq ?_
    refine run_region (q_assign .n (.c rfl) rfl <|
        Lex.nil) ?_
    exact run_ret [] (.cons (.t rfl rfl) .nil) rfl trivial rfl
  · intro rec1 k1 hk2 x1 i3
    obtain ⟨e10, e11⟩ := i3
    try dsimp only at *
    refine run_seq ?_
    refine run_region (q_int .n (.t rfl) (.t rfl) rfl rfl <|
        Lex.nil) ?_
    refine run_seq ?_
    refine run_cond (.t rfl) rfl (fun h4 => ?_) (fun h4 => ?_)
    · try simp only [Bool.and_eq_true, Bool.or_eq_true, Bool.not_eq_true', Bool.and_eq_false_iff, Bool.or_eq_false_iff, Bool.not_eq_false', decide_eq_true_eq, decide_eq_false_iff_not, beq_iff_eq, bne_iff_ne, beq_eq_false_iff_ne, bne_eq_false_iff_eq, Bool.true_and, ne_eq, Decidable.not_not, Int.not_lt, Int.not_le, Nat.not_lt, Nat.not_le, strB_nil, strB_nil', strB_nnil, strB_nnil'] at h4
      refine run_skip ?_
      refine run_seq ?_
      refine run_block ?_
      refine run_seq ?_
      refine run_region (q_move .n (.t rfl) rfl <|
          q_assign .n (.t rfl) rfl <|
          Lex.nil) ?_
      refine run_seq ?_
      refine run_region (q_move .n (.t rfl) rfl <|
          q_move .n (.t rfl) rfl <|
          q_move .n (.t rfl) rfl <|
          q_idx_rm .n (.t rfl) (.t rfl) sl_36 (fun _ => by omega) rfl <|
          q_ldN_ro .n (.t rfl) ag_66 rfl rfl rfl <|
          q_call0 (full := false) .n (.c (.t rfl)) he_f (.cons (.t rfl) .nil) (passes_app hr_f (.cons (.sts rfl) .nil)) (fun hg => hc_f (at' s_ x1) (by exact at_all hp1 (by omega))) rfl (fun h => Bool.noConfusion h) rfl <|
          Lex.nil) ?_
      refine run_cond (.t rfl) rfl (fun h5 => ?_) (fun h5 => ?_)
      · try simp only [Bool.and_eq_true, Bool.or_eq_true, Bool.not_eq_true', Bool.and_eq_false_iff, Bool.or_eq_false_iff, Bool.not_eq_false', decide_eq_true_eq, decide_eq_false_iff_not, beq_iff_eq, bne_iff_ne, beq_eq_false_iff_ne, bne_eq_false_iff_eq, Bool.true_and, ne_eq, Decidable.not_not, Int.not_lt, Int.not_le, Nat.not_lt, Nat.not_le, strB_nil, strB_nil', strB_nnil, strB_nnil'] at h5
        refine run_seq ?_
        refine run_region (q_move .n (.t rfl) rfl <|
            q_assign .n (.t rfl) rfl <|
            Lex.nil) ?_
        exact run_ret [] (.cons (.t rfl rfl) .nil) rfl trivial rfl
      · try simp only [Bool.and_eq_true, Bool.or_eq_true, Bool.not_eq_true', Bool.and_eq_false_iff, Bool.or_eq_false_iff, Bool.not_eq_false', decide_eq_true_eq, decide_eq_false_iff_not, beq_iff_eq, bne_iff_ne, beq_eq_false_iff_ne, bne_eq_false_iff_eq, Bool.true_and, ne_eq, Decidable.not_not, Int.not_lt, Int.not_le, Nat.not_lt, Nat.not_le, strB_nil, strB_nil', strB_nnil, strB_nnil'] at h5
        refine run_skip ?_
        refine run_endB ?_
        refine run_region (q_add .n (.t rfl) (.c rfl) (fun _ => by omega) rfl <|
            q_move .n (.t rfl) rfl <|
            Lex.nil) ?_
        exact run_again (x1 + 1) ⟨by omega, by omega⟩ (by omega) (sub_of [] ⟨rfl, clo_ren hr_f rfl, rfl, rfl, trivial⟩ trivial rfl)
    · try simp only [Bool.and_eq_true, Bool.or_eq_true, Bool.not_eq_true', Bool.and_eq_false_iff, Bool.or_eq_false_iff, Bool.not_eq_false', decide_eq_true_eq, decide_eq_false_iff_not, beq_iff_eq, bne_iff_ne, beq_eq_false_iff_ne, bne_eq_false_iff_eq, Bool.true_and, ne_eq, Decidable.not_not, Int.not_lt, Int.not_le, Nat.not_lt, Nat.not_le, strB_nil, strB_nil', strB_nnil, strB_nnil'] at h4
      refine run_exit rfl ?_
      exact run_cont hk2 x1 ⟨by omega, by omega, by omega⟩ (sub_of [] trivial trivial rfl)

/-! ### slices_ContainsFunc_impl_Job -/
theorem c_slices_ContainsFunc_impl_Job (s_ : List gJob) (f : gJob → Bool) (F_f : FuncId) (C_f : List V) (he_f : entB Try.prog F_f = true) (hr_f : C_f.all V.ro = true) (Q_f : gJob → Prop) (hc_f : ∀ (a0 : gJob), Q_f a0 → Con Try.prog F_f ([.st [.str a0.Id, .int .i64 a0.Airway, .int .i64 a0.People, .int .i64 a0.Power]] ++ C_f) [] (.bool (f a0)) []) (hp1 : ∀ x ∈ s_, Q_f x) : Con Try.prog 56 [.sl 4 (s_.map gJob.v), .clo F_f C_f] [] (.bool (m_slices_ContainsFunc_impl_Job s_ f)) ([]) := by
  refine con_intro (out := fun r : Bool => ((.bool r : V), ([] : List (Nat × Option O)))) (r := (m_slices_ContainsFunc_impl_Job s_ f)) Try.func56 rfl Try.ntmps56 rfl ?_
  refine run_fact (t := 0) rfl fun hl => ?_
  have l1 := hl; clear hl; simp only [List.length_map] at l1
  refine run_seq ?_
  refine run_region (q_assign .n (.c rfl) rfl <|
      Lex.nil) ?_
  refine run_seq ?_
  refine run_region (q_move .n (.t rfl) rfl <|
      q_move .n (.t rfl) rfl <|
      q_call0 (full := false) .n .f en_92 (.cons (.t rfl) (.cons (.t rfl) .nil)) (.cons (.b (.a (.same rfl))) (.cons (.clo (passBs_ro hr_f)) .nil)) (fun hg => c_slices_IndexFunc_impl_Job s_ f F_f C_f he_f hr_f Q_f hc_f (by omega)) rfl (fun h => Bool.noConfusion h) rfl <|
      q_int .n (.t rfl) (.c rfl) rfl rfl <|
      q_assign .n (.t rfl) rfl <|
      Lex.nil) ?_
  exact run_ret [] (.cons (.t rfl rfl) .nil) rfl trivial rfl

/-! ### impl_FewestShifts_1 -/
theorem c_impl_FewestShifts_1 (t : gJob) (p1 : gMine) (p2 : List Int) (hp1 : MineIn p1) (hp2 : FlowsIn p1 p2) (hp3 : 0 ≤ t.Airway ∧ t.Airway < p1.Airways.length) : Con Try.prog 57 [.st [.str t.Id, .int .i64 t.Airway, .int .i64 t.People, .int .i64 t.Power], .rp [.int .i64 p1.Junctions, .sl 7 (p1.Airways.map gAirway.v)], .rp [.sl 1 (p2.map (V.int .i64))]] [] (.bool (m_impl_FewestShifts_1 t p1 p2)) ([]) := by
  refine con_intro (out := fun r : Bool => ((.bool r : V), ([] : List (Nat × Option O)))) (r := (m_impl_FewestShifts_1 t p1 p2)) Try.func57 rfl Try.ntmps57 rfl ?_
  have hJ1 := hp1.1
  have hA1 := hp1.2.1
  have hF2 := hp2.1
  refine run_factP (t := 1) 1 rfl rfl fun hl => ?_
  have l1 := hl; clear hl; simp only [List.length_map] at l1
  refine run_factP (t := 2) 0 rfl rfl fun hl => ?_
  have l2 := hl; clear hl; simp only [List.length_map] at l2
  refine run_seq ?_
  refine run_region (q_box (l := 200) .n rfl (.t rfl) rfl rfl rfl rfl <|
      q_assign .n (.c rfl) rfl <|
      Lex.nil) ?_
  refine run_seq ?_
  refine run_region (q_ldN_ro .n (.t rfl) ag_33 rfl rfl rfl <|
      q_ld1_ro .n (.t rfl) rfl ic_25 rfl <|
      q_ldN_ow .n (.t rfl) rfl (.inr rfl) ag_66 (fun _ => rfl) rfl rfl <|
      q_bslicem ([t] : List gJob) (f := gJob.v) (l := 201) .n rfl rfl (.cons (.t rfl) .nil) rfl si_36 zv_66 rfl rfl rfl <|
      q_call0 (full := true) .n .f en_58 (.cons (.t rfl) (.cons (.t rfl) (.cons (.t rfl) .nil))) (.cons (.sts rfl) (.cons (.b (.a (.same rfl))) (.cons (.b (.a (.own rfl rfl rfl (take_all (by simp only [len_map, put_len] <;> rfl)) (by simp only [len_map, put_len] <;> rfl)))) .nil))) (fun hg => c_impl_Mine_fitJobs p1 p2 ([t] : List gJob) (by omega) (by omega) (by ((intro t1 ht1; rw [List.mem_singleton] at ht1; rw [ht1]; exact hp3)))) rfl (fun _ => rfl) rfl <|
      q_not .n (.t rfl) rfl <|
      q_assign .n (.t rfl) rfl <|
      Lex.nil) ?_
  exact run_ret [] (.cons (.t rfl rfl) .nil) rfl trivial rfl

/-! ### impl_shiftSearch_extend -/
set_option maxRecDepth 100000 in
set_option maxHeartbeats 4000000 in
theorem c_impl_shiftSearch_extend_n : ∀ (fuel : Nat) (s_ : gshiftSearch) (n_ : Int) (used : Int) (hp1 : MineIn s_.mine) (hp2 : FlowsIn s_.mine s_.flows) (hp3 : JobsIn s_.mine s_.list) (hp4 : (s_.shifts.length : Int) ≤ s_.list.length) (hp5 : 0 ≤ used ∧ used ≤ n_) (hp6 : n_ ≤ 100000) (hmu : ((s_.list.length : Int) - s_.shifts.length).toNat < fuel), Con Try.prog 59 [.op 0 0 0 0, .int .i64 n_, .int .i64 used] [(0, some (.box 95 [.int .i64 s_.mine.Junctions, .sl 7 (s_.mine.Airways.map gAirway.v), .sl 1 (s_.flows.map (V.int .i64)), .sl 4 (s_.list.map gJob.v), .int .i64 s_.budget, .os 15 s_.shifts.length])), (15, some (.row 2 1 (s_.shifts.map (V.int .i64))))] (.bool (m_impl_shiftSearch_extend_n fuel s_ n_ used).1) ([(100, some (.row 2 1 ((m_impl_shiftSearch_extend_n fuel s_ n_ used).2.shifts.map (V.int .i64)))), (0, some (.box 95 [.int .i64 s_.mine.Junctions, .sl 7 (s_.mine.Airways.map gAirway.v), .sl 1 (s_.flows.map (V.int .i64)), .sl 4 (s_.list.map gJob.v), .int .i64 (m_impl_shiftSearch_extend_n fuel s_ n_ used).2.budget, .os 100 (m_impl_shiftSearch_extend_n fuel s_ n_ used).2.shifts.length]))]) := by
  intro fuel
  induction fuel with
  | zero => intro s_ n_ used hp1 hp2 hp3 hp4 hp5 hp6 hmu; exact absurd hmu (Nat.not_lt_zero _)
  | succ fuel ih =>
  intro s_ n_ used hp1 hp2 hp3 hp4 hp5 hp6 hmu
  simp only [m_impl_shiftSearch_extend_n]
  have hself := post_impl_shiftSearch_extend fuel
  generalize m_impl_shiftSearch_extend_n fuel = self_ at ih hself ⊢
  refine con_intro (out := fun r : Bool × gshiftSearch => ((.bool r.1 : V), ([(100, some (.row 2 1 (r.2.shifts.map (V.int .i64)))), (0, some (.box 95 [.int .i64 s_.mine.Junctions, .sl 7 (s_.mine.Airways.map gAirway.v), .sl 1 (s_.flows.map (V.int .i64)), .sl 4 (s_.list.map gJob.v), .int .i64 r.2.budget, .os 100 r.2.shifts.length]))] : List (Nat × Option O)))) (r := (m_impl_shiftSearch_extend_body self_ s_ n_ used)) Try.func59 rfl Try.ntmps59 rfl ?_
  have hL := hp3.1
  have hW := wr64 (n := used + 1) (by omega)
  have hE : (if (IntKind.wrap .i64 (used + 1)) < n_ then (IntKind.wrap .i64 (used + 1)) else n_) ≤ n_ := by split <;> omega
  have hJ1 := hp1.1
  have hA1 := hp1.2.1
  have hF2 := hp2.1
  refine run_sub (s' := ⟨[(0, some (true, .op 0 0 0 0)), (1, some (true, .int .i64 n_)), (2, some (true, .int .i64 used))], [(0, some (.box 95 [.int .i64 s_.mine.Junctions, .sl 7 (s_.mine.Airways.map gAirway.v), .sl 1 (s_.flows.map (V.int .i64)), .sl 4 (s_.list.map gJob.v), .int .i64 s_.budget, .os 200 s_.shifts.length])), (200, some (.row 2 1 (s_.shifts.map (V.int .i64))))]⟩) (sub_of [(200, 15)] ⟨rfl, rfl, rfl, trivial⟩ ⟨rfl, rfl, trivial⟩ rfl) ?_
  refine run_factH (l := 200) rfl fun hl => ?_
  have l1 := hl; clear hl; simp only [List.length_map] at l1
  refine run_seq ?_
  refine run_region (q_assign .n (.c rfl) rfl <|
      Lex.nil) ?_
  refine run_seq ?_
  refine run_region (q_move .n (.t rfl) rfl <|
      q_nilc_ow .n (.t rfl) rfl <|
      q_fld_ow .n (.t rfl) fo_95_4 rfl <|
      q_ld1_ow .n (.t rfl) rfl (.inr rfl) (fun _ => rfl) rfl ic_25 rfl <|
      q_len .n (.t rfl) rfl rfl ss_25 rfl <|
      q_assign .n (.t rfl) rfl <|
      Lex.nil) ?_
  refine run_seq ?_
  refine run_seq ?_
  refine run_region (q_move .n (.t rfl) rfl <|
      q_move .n (.t rfl) rfl <|
      q_nilc_ow .n (.t rfl) rfl <|
      q_fld_ow .n (.t rfl) fo_95_2 rfl <|
      q_ld1_ow .n (.t rfl) rfl (.inr rfl) (fun _ => rfl) rfl ic_36 rfl <|
      q_len .n (.t rfl) rfl len_map ss_36 rfl <|
      q_int .n (.t rfl) (.t rfl) rfl rfl <|
      Lex.nil) ?_
  refine run_fact (t := 21) rfl fun hl => ?_
  have l2 := hl; clear hl; simp only [List.length_map] at l2
  refine run_cond (.t rfl) rfl (fun h3 => ?_) (fun h3 => ?_)
  · try simp only [Bool.and_eq_true, Bool.or_eq_true, Bool.not_eq_true', Bool.and_eq_false_iff, Bool.or_eq_false_iff, Bool.not_eq_false', decide_eq_true_eq, decide_eq_false_iff_not, beq_iff_eq, bne_iff_ne, beq_eq_false_iff_ne, bne_eq_false_iff_eq, Bool.true_and, ne_eq, Decidable.not_not, Int.not_lt, Int.not_le, Nat.not_lt, Nat.not_le, strB_nil, strB_nil', strB_nnil, strB_nnil'] at h3
    refine run_seq ?_
    refine run_region (q_assign .n (.c rfl) rfl <|
        Lex.nil) ?_
    exact run_ret [(100, 200)] (.cons (.t rfl rfl) .nil) rfl ⟨rfl, rfl, trivial⟩ rfl
  · try simp only [Bool.and_eq_true, Bool.or_eq_true, Bool.not_eq_true', Bool.and_eq_false_iff, Bool.or_eq_false_iff, Bool.not_eq_false', decide_eq_true_eq, decide_eq_false_iff_not, beq_iff_eq, bne_iff_ne, beq_eq_false_iff_ne, bne_eq_false_iff_eq, Bool.true_and, ne_eq, Decidable.not_not, Int.not_lt, Int.not_le, Nat.not_lt, Nat.not_le, strB_nil, strB_nil', strB_nnil, strB_nnil'] at h3
    refine run_skip ?_
    refine run_seq ?_
    refine run_seq ?_
    refine run_region (q_move .n (.t rfl) rfl <|
        q_move .n (.t rfl) rfl <|
        q_int .n (.t rfl) (.c rfl) rfl rfl <|
        q_min .n (.t rfl) (.t rfl) rfl <|
        q_move .n (.c rfl) rfl <|
        Lex.nil) ?_
    refine run_block ?_
    refine run_LOOP (m_impl_shiftSearch_extend_b1 self_ s_ n_ used) _ _ _ rfl (fun (x1 : Int × Int × (List Int)) => 0 ≤ x1.1 ∧ x1.1 ≤ (if (IntKind.wrap .i64 (used + 1)) < n_ then (IntKind.wrap .i64 (used + 1)) else n_) ∧ x1.2.2 = s_.shifts) (fun x1 => 0 ≤ x1.1 ∧ x1.1 ≤ (if (IntKind.wrap .i64 (used + 1)) < n_ then (IntKind.wrap .i64 (used + 1)) else n_) ∧ x1.2.2 = s_.shifts ∧ (if (IntKind.wrap .i64 (used + 1)) < n_ then (IntKind.wrap .i64 (used + 1)) else n_) ≤ x1.1) (fun x1 => ((if (IntKind.wrap .i64 (used + 1)) < n_ then (IntKind.wrap .i64 (used + 1)) else n_) - x1.1 : Int).toNat) (fun x1 => ⟨[(0, some (true, .op 0 0 0 0)), (1, some (true, .int .i64 n_)), (2, some (true, .int .i64 used)), (7, some (true, .int .i64 (s_.shifts.length : Int))), (27, some (true, .int .i64 (if (IntKind.wrap .i64 (used + 1)) < n_ then (IntKind.wrap .i64 (used + 1)) else n_))), (28, some (true, .int .i64 x1.1))], [(0, some (.box 95 [.int .i64 s_.mine.Junctions, .sl 7 (s_.mine.Airways.map gAirway.v), .sl 1 (s_.flows.map (V.int .i64)), .sl 4 (s_.list.map gJob.v), .int .i64 x1.2.1, .os 200 x1.2.2.length])), (200, some (.row 2 1 (x1.2.2.map (V.int .i64))))]⟩) (fun x1 => ⟨[], [(0, some (.box 95 [.int .i64 s_.mine.Junctions, .sl 7 (s_.mine.Airways.map gAirway.v), .sl 1 (s_.flows.map (V.int .i64)), .sl 4 (s_.list.map gJob.v), .int .i64 x1.2.1, .os 200 x1.2.2.length])), (200, some (.row 2 1 (x1.2.2.map (V.int .i64))))]⟩) ⟨by omega, by omega, by (simp only [List.length_append, List.length_cons, List.length_nil, List.length_replicate, put_len] at * <;> omega)⟩ (by omega) (sub_of [] ⟨rfl, rfl, rfl, rfl, rfl, rfl, trivial⟩ ⟨rfl, rfl, trivial⟩ rfl) ?_ ?_
    · intro x1 i27
      obtain ⟨e28, e29, e30, e31⟩ := i27
      try dsimp only at *
      refine run_seq ?_
      refine run_region (q_assign .n (.c rfl) rfl <|
          Lex.nil) ?_
      exact run_ret [(100, 200)] (.cons (.t rfl rfl) .nil) rfl ⟨rfl, rfl, trivial⟩ rfl
    · intro rec1 k1 hk4 x1 i5
      obtain ⟨e32, e33, e34⟩ := i5
      try dsimp only at *
      refine run_seq ?_
      refine run_region (q_int .n (.t rfl) (.t rfl) rfl rfl <|
          Lex.nil) ?_
      refine run_seq ?_
      refine run_cond (.t rfl) rfl (fun h6 => ?_) (fun h6 => ?_)
      · try simp only [Bool.and_eq_true, Bool.or_eq_true, Bool.not_eq_true', Bool.and_eq_false_iff, Bool.or_eq_false_iff, Bool.not_eq_false', decide_eq_true_eq, decide_eq_false_iff_not, beq_iff_eq, bne_iff_ne, beq_eq_false_iff_ne, bne_eq_false_iff_eq, Bool.true_and, ne_eq, Decidable.not_not, Int.not_lt, Int.not_le, Nat.not_lt, Nat.not_le, strB_nil, strB_nil', strB_nnil, strB_nnil'] at h6
        refine run_skip ?_
        refine run_seq ?_
        refine run_block ?_
        refine run_seq ?_
        refine run_region (q_move .n (.t rfl) rfl <|
            q_assign .n (.t rfl) rfl <|
            Lex.nil) ?_
        refine run_seq ?_
        refine run_region (q_move .n (.t rfl) rfl <|
            q_nilc_ow .n (.t rfl) rfl <|
            q_fld_ow .n (.t rfl) fo_95_2 rfl <|
            q_ld1_ow .n (.t rfl) rfl (.inr rfl) (fun _ => rfl) rfl ic_36 rfl <|
            q_move .n (.t rfl) rfl <|
            q_idx_rm .n (.t rfl) (.t rfl) sl_36 (fun _ => by omega) rfl <|
            q_ldN_ro .n (.t rfl) ag_66 rfl rfl rfl <|
            q_bslicem ([at' s_.list (s_.shifts.length : Int)] : List gJob) (f := gJob.v) (l := 201) .n rfl rfl (.cons (.t rfl) .nil) rfl si_36 zv_66 rfl rfl rfl <|
            q_assign .n (.t rfl) rfl <|
            Lex.nil) ?_
        refine run_seq ?_
        refine run_seq ?_
        refine run_region (q_move .n (.t rfl) rfl <|
            q_nilc_ow .n (.t rfl) rfl <|
            q_fld_ow .n (.t rfl) fo_95_4 rfl <|
            q_ld1_ow .n (.t rfl) rfl (.inr rfl) (fun _ => rfl) rfl ic_25 rfl <|
            q_len .n (.t rfl) rfl rfl ss_25 rfl <|
            q_move .n (.c rfl) rfl <|
            Lex.nil) ?_
        refine run_block ?_
        refine run_LOOP (m_impl_shiftSearch_extend_b2 self_ s_ n_ used rec1 k1 x1) _ _ _ rfl (fun (x2 : (List gJob) × Int) => 0 ≤ x2.2 ∧ x2.2 ≤ (x1.2.2.length : Int) ∧ (x2.1.length : Int) + 0 ≤ x2.2 + (([at' s_.list (s_.shifts.length : Int)] : List gJob).length : Int) ∧ (x2.1.length : Int) ≤ x2.2 + 1 ∧ (∀ t ∈ x2.1, 0 ≤ t.Airway ∧ t.Airway < s_.mine.Airways.length)) (fun x2 => 0 ≤ x2.2 ∧ x2.2 ≤ (x1.2.2.length : Int) ∧ (x2.1.length : Int) + 0 ≤ x2.2 + (([at' s_.list (s_.shifts.length : Int)] : List gJob).length : Int) ∧ (x2.1.length : Int) ≤ x2.2 + 1 ∧ (∀ t ∈ x2.1, 0 ≤ t.Airway ∧ t.Airway < s_.mine.Airways.length) ∧ (x1.2.2.length : Int) ≤ x2.2) (fun x2 => ((x1.2.2.length : Int) - x2.2 : Int).toNat) (fun x2 => ⟨[(0, some (true, .op 0 0 0 0)), (1, some (true, .int .i64 n_)), (2, some (true, .int .i64 used)), (7, some (true, .int .i64 (s_.shifts.length : Int))), (8, some (true, .int .i64 x1.1)), (9, some (true, .os 201 x2.1.length)), (27, some (true, .int .i64 (if (IntKind.wrap .i64 (used + 1)) < n_ then (IntKind.wrap .i64 (used + 1)) else n_))), (28, some (true, .int .i64 x1.1)), (42, some (true, .os 200 x1.2.2.length)), (43, some (true, .int .i64 (x1.2.2.length : Int))), (44, some (true, .int .i64 x2.2))], [(0, some (.box 95 [.int .i64 s_.mine.Junctions, .sl 7 (s_.mine.Airways.map gAirway.v), .sl 1 (s_.flows.map (V.int .i64)), .sl 4 (s_.list.map gJob.v), .int .i64 x1.2.1, .os 200 x1.2.2.length])), (200, some (.row 2 1 (x1.2.2.map (V.int .i64)))), (201, some (.row 66 4 (x2.1.map gJob.v)))]⟩) (fun x2 => ⟨[(0, some (true, .op 0 0 0 0)), (1, some (true, .int .i64 n_)), (2, some (true, .int .i64 used)), (7, some (true, .int .i64 (s_.shifts.length : Int))), (8, some (true, .int .i64 x1.1)), (9, some (true, .os 201 x2.1.length)), (27, some (true, .int .i64 (if (IntKind.wrap .i64 (used + 1)) < n_ then (IntKind.wrap .i64 (used + 1)) else n_))), (28, some (true, .int .i64 x1.1))], [(0, some (.box 95 [.int .i64 s_.mine.Junctions, .sl 7 (s_.mine.Airways.map gAirway.v), .sl 1 (s_.flows.map (V.int .i64)), .sl 4 (s_.list.map gJob.v), .int .i64 x1.2.1, .os 200 x1.2.2.length])), (200, some (.row 2 1 (x1.2.2.map (V.int .i64)))), (201, some (.row 66 4 (x2.1.map gJob.v)))]⟩) ⟨by omega, by omega, by (simp only [List.length_append, List.length_cons, List.length_nil, List.length_replicate, put_len] at * <;> omega), by (simp only [List.length_append, List.length_cons, List.length_nil, List.length_replicate, put_len] at * <;> omega), by ((intro t ht; rw [List.mem_singleton] at ht; rw [ht]; exact JobsIn.at hp3 (by omega)))⟩ (by omega) (sub_of [] ⟨rfl, rfl, rfl, rfl, rfl, rfl, rfl, rfl, rfl, rfl, rfl, trivial⟩ ⟨rfl, rfl, rfl, trivial⟩ rfl) ?_ ?_
        · intro x2 i11
          obtain ⟨e16, e17, e18, e19, e20, e21⟩ := i11
          try dsimp only at *
          refine run_seq ?_
          refine run_seq ?_
          refine run_draw fmo (q_move .n (.t rfl) rfl <|
              q_nilc_ow .n (.t rfl) rfl <|
              q_fld_ow .n (.t rfl) fo_95_0 rfl <|
              q_ldN_ow .n (.t rfl) rfl (.inr rfl) ag_33 (fun _ => rfl) rfl rfl <|
              q_move .n (.t rfl) rfl <|
              q_nilc_ow .n (.t rfl) rfl <|
              q_fld_ow .n (.t rfl) fo_95_1 rfl <|
              q_ld1_ow .n (.t rfl) rfl (.inr rfl) (fun _ => rfl) rfl ic_25 rfl <|
              q_move .n (.t rfl) rfl <|
              q_call0 (full := true) .n .f en_58 (.cons (.t rfl) (.cons (.t rfl) (.cons (.t rfl) .nil))) (.cons (.sts rfl) (.cons (.b (.a (.same rfl))) (.cons (.b (.a (.own rfl rfl rfl (take_all (by simp only [len_map, put_len] <;> rfl)) (by simp only [len_map, put_len] <;> rfl)))) .nil))) (fun hg => c_impl_Mine_fitJobs s_.mine s_.flows x2.1 (by omega) (by omega) (by omega)) rfl (fun _ => rfl) rfl <|
              q_not .n (.t rfl) rfl <|
              Lex.nil) (by kernel_rfl) ?_
          refine run_cond (.t rfl) rfl (fun h12 => ?_) (fun h12 => ?_)
          · try simp only [Bool.and_eq_true, Bool.or_eq_true, Bool.not_eq_true', Bool.and_eq_false_iff, Bool.or_eq_false_iff, Bool.not_eq_false', decide_eq_true_eq, decide_eq_false_iff_not, beq_iff_eq, bne_iff_ne, beq_eq_false_iff_ne, bne_eq_false_iff_eq, Bool.true_and, ne_eq, Decidable.not_not, Int.not_lt, Int.not_le, Nat.not_lt, Nat.not_le, strB_nil, strB_nil', strB_nnil, strB_nnil'] at h12
            refine run_exit rfl ?_
            refine run_region (q_add .n (.t rfl) (.c rfl) (fun _ => by omega) rfl <|
                q_move .n (.t rfl) rfl <|
                Lex.nil) ?_
            exact run_again (x1.1 + 1, x1.2.1, x1.2.2) ⟨by omega, by omega, by omega⟩ (by omega) (sub_of [] ⟨rfl, rfl, rfl, rfl, rfl, rfl, trivial⟩ ⟨rfl, rfl, trivial⟩ rfl)
          · try simp only [Bool.and_eq_true, Bool.or_eq_true, Bool.not_eq_true', Bool.and_eq_false_iff, Bool.or_eq_false_iff, Bool.not_eq_false', decide_eq_true_eq, decide_eq_false_iff_not, beq_iff_eq, bne_iff_ne, beq_eq_false_iff_ne, bne_eq_false_iff_eq, Bool.true_and, ne_eq, Decidable.not_not, Int.not_lt, Int.not_le, Nat.not_lt, Nat.not_le, strB_nil, strB_nil', strB_nnil, strB_nnil'] at h12
            refine run_skip ?_
            refine run_seq ?_
            refine run_seq ?_
            refine run_region (q_move .n (.t rfl) rfl <|
                q_nilc_ow .n (.t rfl) rfl <|
                q_fld_ow .n (.t rfl) fo_95_3 rfl <|
                q_ld1_ow .n (.t rfl) rfl (.inr rfl) (fun _ => rfl) rfl ic_2 rfl <|
                q_int .n (.t rfl) (.c rfl) rfl rfl <|
                q_nilc_ow .n (.t rfl) rfl <|
                q_fld_ow .n (.t rfl) fo_95_3 rfl <|
                q_st_boxm [.int .i64 s_.mine.Junctions, .sl 7 (s_.mine.Airways.map gAirway.v), .sl 1 (s_.flows.map (V.int .i64)), .sl 4 (s_.list.map gJob.v), .int .i64 (IntKind.wrap .i64 (x1.2.1 - 1)), .os 200 x1.2.2.length] .n rfl (.t rfl) (.t rfl) rfl ts_2 rfl rfl <|
                Lex.nil) ?_
            refine run_seq ?_
            refine run_region (q_move .n (.t rfl) rfl <|
                q_nilc_ow .n (.t rfl) rfl <|
                q_fld_ow .n (.t rfl) fo_95_3 rfl <|
                q_ld1_ow .n (.t rfl) rfl (.inr rfl) (fun _ => rfl) rfl ic_2 rfl <|
                q_int .n (.t rfl) (.c rfl) rfl rfl <|
                Lex.nil) ?_
            refine run_cond (.t rfl) rfl (fun h13 => ?_) (fun h13 => ?_)
            · try simp only [Bool.and_eq_true, Bool.or_eq_true, Bool.not_eq_true', Bool.and_eq_false_iff, Bool.or_eq_false_iff, Bool.not_eq_false', decide_eq_true_eq, decide_eq_false_iff_not, beq_iff_eq, bne_iff_ne, beq_eq_false_iff_ne, bne_eq_false_iff_eq, Bool.true_and, ne_eq, Decidable.not_not, Int.not_lt, Int.not_le, Nat.not_lt, Nat.not_le, strB_nil, strB_nil', strB_nnil, strB_nnil'] at h13
              refine run_seq ?_
              refine run_region (q_assign .n (.c rfl) rfl <|
                  Lex.nil) ?_
              exact run_ret [(100, 200)] (.cons (.t rfl rfl) .nil) rfl ⟨rfl, rfl, trivial⟩ rfl
            · try simp only [Bool.and_eq_true, Bool.or_eq_true, Bool.not_eq_true', Bool.and_eq_false_iff, Bool.or_eq_false_iff, Bool.not_eq_false', decide_eq_true_eq, decide_eq_false_iff_not, beq_iff_eq, bne_iff_ne, beq_eq_false_iff_ne, bne_eq_false_iff_eq, Bool.true_and, ne_eq, Decidable.not_not, Int.not_lt, Int.not_le, Nat.not_lt, Nat.not_le, strB_nil, strB_nil', strB_nnil, strB_nnil'] at h13
              refine run_skip ?_
              refine run_seq ?_
              refine run_region (q_move .n (.t rfl) rfl <|
                  q_move .n (.t rfl) rfl <|
                  q_nilc_ow .n (.t rfl) rfl <|
                  q_fld_ow .n (.t rfl) fo_95_4 rfl <|
                  q_ld1_ow .n (.t rfl) rfl (.inr rfl) (fun _ => rfl) rfl ic_25 rfl <|
                  q_move .n (.t rfl) rfl <|
                  q_bslicem ([x1.1] : List Int) (f := V.int .i64) (l := 204) .n rfl rfl (.cons (.t rfl) .nil) rfl si_25 zv_2 rfl rfl rfl <|
                  q_appm (xs := x1.2.2) (ys := ([x1.1] : List Int)) (f := V.int .i64) (l := 205) .n rfl (.ow (.t rfl) rfl (take_all (by simp only [len_map, put_len] <;> rfl)) (by simp only [len_map, put_len] <;> rfl)) (.ow (.t rfl) rfl (take_all (by simp only [len_map, put_len] <;> rfl)) (by simp only [len_map, put_len] <;> rfl)) si_25 zv_2 rfl (by ((have he := congrArg List.length (show x1.2.2 = s_.shifts by assumption); (try dsimp only); simp only [List.length_append, List.length_cons, List.length_nil] at *; omega))) rfl rfl <|
                  q_nilc_ow .n (.t rfl) rfl <|
                  q_fld_ow .n (.t rfl) fo_95_4 rfl <|
                  q_st_boxm [.int .i64 s_.mine.Junctions, .sl 7 (s_.mine.Airways.map gAirway.v), .sl 1 (s_.flows.map (V.int .i64)), .sl 4 (s_.list.map gJob.v), .int .i64 (IntKind.wrap .i64 (x1.2.1 - 1)), .os 205 (x1.2.2 ++ ([x1.1] : List Int)).length] .n rfl (.t rfl) (.t rfl) rfl ts_25 rfl rfl <|
                  Lex.nil) ?_
              refine run_seq ?_
              refine run_seq ?_
              refine run_region (q_move .n (.t rfl) rfl <|
                  q_move .n (.t rfl) rfl <|
                  q_move .n (.t rfl) rfl <|
                  q_move .n (.t rfl) rfl <|
                  q_add .n (.t rfl) (.c rfl) (fun _ => by omega) rfl <|
                  q_max .n (.t rfl) (.t rfl) rfl <|
                  q_callM (full := false) [(0, 0), (15, 205)] [(100, 206)] .n rfl .f en_59 (.cons (.t rfl) (.cons (.t rfl) (.cons (.t rfl) .nil))) (.cons (.b (.mutp rfl)) (.cons (.b (.a (.same rfl))) (.cons (.b (.a (.same rfl))) .nil))) (ih (gshiftSearch.mk s_.mine s_.flows s_.list (IntKind.wrap .i64 (x1.2.1 - 1)) (x1.2.2 ++ ([x1.1] : List Int))) n_ (if used < (x1.1 + 1) then (x1.1 + 1) else used) (by omega) (by omega) (by omega) (by ((have he := congrArg List.length (show x1.2.2 = s_.shifts by assumption); (try dsimp only); simp only [List.length_append, List.length_cons, List.length_nil] at *; omega))) (by omega) (by omega) (by ((have he := congrArg List.length (show x1.2.2 = s_.shifts by assumption); (try dsimp only); simp only [List.length_append, List.length_cons, List.length_nil] at *; omega)))) ⟨rfl, rfl, trivial⟩ rfl rfl (fun h => Bool.noConfusion h) (fun h => Bool.noConfusion h) rfl <|
                  Lex.nil) ?_
              refine run_cond (.t rfl) rfl (fun h14 => ?_) (fun h14 => ?_)
              · try simp only [Bool.and_eq_true, Bool.or_eq_true, Bool.not_eq_true', Bool.and_eq_false_iff, Bool.or_eq_false_iff, Bool.not_eq_false', decide_eq_true_eq, decide_eq_false_iff_not, beq_iff_eq, bne_iff_ne, beq_eq_false_iff_ne, bne_eq_false_iff_eq, Bool.true_and, ne_eq, Decidable.not_not, Int.not_lt, Int.not_le, Nat.not_lt, Nat.not_le, strB_nil, strB_nil', strB_nnil, strB_nnil'] at h14
                refine run_seq ?_
                refine run_region (q_assign .n (.c rfl) rfl <|
                    Lex.nil) ?_
                exact run_ret [(100, 206)] (.cons (.t rfl rfl) .nil) rfl ⟨rfl, rfl, trivial⟩ rfl
              · try simp only [Bool.and_eq_true, Bool.or_eq_true, Bool.not_eq_true', Bool.and_eq_false_iff, Bool.or_eq_false_iff, Bool.not_eq_false', decide_eq_true_eq, decide_eq_false_iff_not, beq_iff_eq, bne_iff_ne, beq_eq_false_iff_ne, bne_eq_false_iff_eq, Bool.true_and, ne_eq, Decidable.not_not, Int.not_lt, Int.not_le, Nat.not_lt, Nat.not_le, strB_nil, strB_nil', strB_nnil, strB_nnil'] at h14
                refine run_skip ?_
                refine run_seq ?_
                refine run_region (q_move .n (.t rfl) rfl <|
                    q_move .n (.t rfl) rfl <|
                    q_nilc_ow .n (.t rfl) rfl <|
                    q_fld_ow .n (.t rfl) fo_95_4 rfl <|
                    q_ld1_ow .n (.t rfl) rfl (.inr rfl) (fun _ => rfl) rfl ic_25 rfl <|
                    q_move .n (.t rfl) rfl <|
                    q_cut_owm (xs := (self_ (gshiftSearch.mk s_.mine s_.flows s_.list (IntKind.wrap .i64 (x1.2.1 - 1)) (x1.2.2 ++ ([x1.1] : List Int))) n_ (if used < (x1.1 + 1) then (x1.1 + 1) else used)).2.shifts) (b := (s_.shifts.length : Int)) .n (.t rfl) (.s (.t rfl)) sl_25 (fun _ => by ((have he := (show x1.2.2 = s_.shifts by assumption); simp only [he] at *; have hq := hself (gshiftSearch.mk s_.mine s_.flows s_.list (IntKind.wrap .i64 (x1.2.1 - 1)) (s_.shifts ++ ([x1.1] : List Int))) n_ (if used < (x1.1 + 1) then (x1.1 + 1) else used) (by (try dsimp only); (try simp only [List.length_append, List.length_cons, List.length_nil]); omega) (by (try dsimp only); (try simp only [List.length_append, List.length_cons, List.length_nil]); omega) (by assumption); (try dsimp only at hq); rw [hq]; simp only [List.length_append, List.length_cons, List.length_nil]; omega))) rfl <|
                    q_nilc_ow .n (.t rfl) rfl <|
                    q_fld_ow .n (.t rfl) fo_95_4 rfl <|
                    q_st_boxm [.int .i64 s_.mine.Junctions, .sl 7 (s_.mine.Airways.map gAirway.v), .sl 1 (s_.flows.map (V.int .i64)), .sl 4 (s_.list.map gJob.v), .int .i64 (self_ (gshiftSearch.mk s_.mine s_.flows s_.list (IntKind.wrap .i64 (x1.2.1 - 1)) (x1.2.2 ++ ([x1.1] : List Int))) n_ (if used < (x1.1 + 1) then (x1.1 + 1) else used)).2.budget, .os 206 (pre' (self_ (gshiftSearch.mk s_.mine s_.flows s_.list (IntKind.wrap .i64 (x1.2.1 - 1)) (x1.2.2 ++ ([x1.1] : List Int))) n_ (if used < (x1.1 + 1) then (x1.1 + 1) else used)).2.shifts (s_.shifts.length : Int)).length] .n rfl (.t rfl) (.t rfl) rfl ts_25 rfl rfl <|
                    Lex.nil) ?_
                refine run_shrink (f := V.int .i64) (xs := (self_ (gshiftSearch.mk s_.mine s_.flows s_.list (IntKind.wrap .i64 (x1.2.1 - 1)) (x1.2.2 ++ ([x1.1] : List Int))) n_ (if used < (x1.1 + 1) then (x1.1 + 1) else used)).2.shifts) (l := 206) (s_.shifts.length : Int) rfl ?_
                refine run_seq ?_
                refine run_region (q_move .n (.t rfl) rfl <|
                    q_nilc_ow .n (.t rfl) rfl <|
                    q_fld_ow .n (.t rfl) fo_95_3 rfl <|
                    q_ld1_ow .n (.t rfl) rfl (.inr rfl) (fun _ => rfl) rfl ic_2 rfl <|
                    q_int .n (.t rfl) (.c rfl) rfl rfl <|
                    Lex.nil) ?_
                refine run_cond (.t rfl) rfl (fun h15 => ?_) (fun h15 => ?_)
                · try simp only [Bool.and_eq_true, Bool.or_eq_true, Bool.not_eq_true', Bool.and_eq_false_iff, Bool.or_eq_false_iff, Bool.not_eq_false', decide_eq_true_eq, decide_eq_false_iff_not, beq_iff_eq, bne_iff_ne, beq_eq_false_iff_ne, bne_eq_false_iff_eq, Bool.true_and, ne_eq, Decidable.not_not, Int.not_lt, Int.not_le, Nat.not_lt, Nat.not_le, strB_nil, strB_nil', strB_nnil, strB_nnil'] at h15
                  refine run_seq ?_
                  refine run_region (q_assign .n (.c rfl) rfl <|
                      Lex.nil) ?_
                  exact run_ret [(100, 206)] (.cons (.t rfl rfl) .nil) rfl ⟨rfl, rfl, trivial⟩ rfl
                · try simp only [Bool.and_eq_true, Bool.or_eq_true, Bool.not_eq_true', Bool.and_eq_false_iff, Bool.or_eq_false_iff, Bool.not_eq_false', decide_eq_true_eq, decide_eq_false_iff_not, beq_iff_eq, bne_iff_ne, beq_eq_false_iff_ne, bne_eq_false_iff_eq, Bool.true_and, ne_eq, Decidable.not_not, Int.not_lt, Int.not_le, Nat.not_lt, Nat.not_le, strB_nil, strB_nil', strB_nnil, strB_nnil'] at h15
                  refine run_skip ?_
                  refine run_endB ?_
                  refine run_region (q_add .n (.t rfl) (.c rfl) (fun _ => by omega) rfl <|
                      q_move .n (.t rfl) rfl <|
                      Lex.nil) ?_
                  exact run_again (x1.1 + 1, (self_ (gshiftSearch.mk s_.mine s_.flows s_.list (IntKind.wrap .i64 (x1.2.1 - 1)) (x1.2.2 ++ ([x1.1] : List Int))) n_ (if used < (x1.1 + 1) then (x1.1 + 1) else used)).2.budget, pre' (self_ (gshiftSearch.mk s_.mine s_.flows s_.list (IntKind.wrap .i64 (x1.2.1 - 1)) (x1.2.2 ++ ([x1.1] : List Int))) n_ (if used < (x1.1 + 1) then (x1.1 + 1) else used)).2.shifts (s_.shifts.length : Int)) ⟨by omega, by omega, by ((have he := (show x1.2.2 = s_.shifts by assumption); simp only [he] at *; have hq := hself (gshiftSearch.mk s_.mine s_.flows s_.list (IntKind.wrap .i64 (x1.2.1 - 1)) (s_.shifts ++ ([x1.1] : List Int))) n_ (if used < (x1.1 + 1) then (x1.1 + 1) else used) (by (try dsimp only); (try simp only [List.length_append, List.length_cons, List.length_nil]); omega) (by (try dsimp only); (try simp only [List.length_append, List.length_cons, List.length_nil]); omega) (by assumption); (try dsimp only at hq); rw [hq, pre_app]))⟩ (by omega) (sub_of [(200, 206)] ⟨rfl, rfl, rfl, rfl, rfl, rfl, trivial⟩ ⟨rfl, rfl, trivial⟩ rfl)
        · intro rec2 k2 hk7 x2 i8
          obtain ⟨e22, e23, e24, e25, e26⟩ := i8
          try dsimp only at *
          refine run_seq ?_
          refine run_region (q_int .n (.t rfl) (.t rfl) rfl rfl <|
              Lex.nil) ?_
          refine run_seq ?_
          refine run_cond (.t rfl) rfl (fun h9 => ?_) (fun h9 => ?_)
          · try simp only [Bool.and_eq_true, Bool.or_eq_true, Bool.not_eq_true', Bool.and_eq_false_iff, Bool.or_eq_false_iff, Bool.not_eq_false', decide_eq_true_eq, decide_eq_false_iff_not, beq_iff_eq, bne_iff_ne, beq_eq_false_iff_ne, bne_eq_false_iff_eq, Bool.true_and, ne_eq, Decidable.not_not, Int.not_lt, Int.not_le, Nat.not_lt, Nat.not_le, strB_nil, strB_nil', strB_nnil, strB_nnil'] at h9
            refine run_skip ?_
            refine run_seq ?_
            refine run_block ?_
            refine run_seq ?_
            refine run_region (q_move .n (.t rfl) rfl <|
                q_idx_ow .n (.t rfl) (.t rfl) sl_25 (fun _ => by omega) rfl <|
                q_ld1_row .n (.t rfl) rfl (fun _ => by omega) rfl rfl rfl ic_2 rfl <|
                q_assign .n (.t rfl) rfl <|
                q_assign .n (.t rfl) rfl <|
                Lex.nil) ?_
            refine run_seq ?_
            refine run_region (q_move .n (.t rfl) rfl <|
                q_move .n (.t rfl) rfl <|
                q_int .n (.t rfl) (.t rfl) rfl rfl <|
                Lex.nil) ?_
            refine run_cond (.t rfl) rfl (fun h10 => ?_) (fun h10 => ?_)
            · try simp only [Bool.and_eq_true, Bool.or_eq_true, Bool.not_eq_true', Bool.and_eq_false_iff, Bool.or_eq_false_iff, Bool.not_eq_false', decide_eq_true_eq, decide_eq_false_iff_not, beq_iff_eq, bne_iff_ne, beq_eq_false_iff_ne, bne_eq_false_iff_eq, Bool.true_and, ne_eq, Decidable.not_not, Int.not_lt, Int.not_le, Nat.not_lt, Nat.not_le, strB_nil, strB_nil', strB_nnil, strB_nnil'] at h10
              refine run_region (q_move .n (.t rfl) rfl <|
                  q_move .n (.t rfl) rfl <|
                  q_nilc_ow .n (.t rfl) rfl <|
                  q_fld_ow .n (.t rfl) fo_95_2 rfl <|
                  q_ld1_ow .n (.t rfl) rfl (.inr rfl) (fun _ => rfl) rfl ic_36 rfl <|
                  q_move .n (.t rfl) rfl <|
                  q_idx_rm .n (.t rfl) (.t rfl) sl_36 (fun _ => by ((have he := congrArg List.length (show x1.2.2 = s_.shifts by assumption); (try dsimp only); simp only [List.length_append, List.length_cons, List.length_nil] at *; omega))) rfl <|
                  q_ldN_ro .n (.t rfl) ag_66 rfl rfl rfl <|
                  q_bslicem ([at' s_.list x2.2] : List gJob) (f := gJob.v) (l := 202) .n rfl rfl (.cons (.t rfl) .nil) rfl si_36 zv_66 rfl rfl rfl <|
                  q_appm (xs := x2.1) (ys := ([at' s_.list x2.2] : List gJob)) (f := gJob.v) (l := 203) .n rfl (.ow (.t rfl) rfl (take_all (by simp only [len_map, put_len] <;> rfl)) (by simp only [len_map, put_len] <;> rfl)) (.ow (.t rfl) rfl (take_all (by simp only [len_map, put_len] <;> rfl)) (by simp only [len_map, put_len] <;> rfl)) si_36 zv_66 rfl (by ((have he := congrArg List.length (show x1.2.2 = s_.shifts by assumption); (try dsimp only); simp only [List.length_append, List.length_cons, List.length_nil] at *; omega))) rfl rfl <|
                  q_assign .n (.t rfl) rfl <|
                  Lex.nil) ?_
              refine run_endB ?_
              refine run_region (q_add .n (.t rfl) (.c rfl) (fun _ => by ((have he := congrArg List.length (show x1.2.2 = s_.shifts by assumption); (try dsimp only); simp only [List.length_append, List.length_cons, List.length_nil] at *; omega))) rfl <|
                  q_move .n (.t rfl) rfl <|
                  Lex.nil) ?_
              exact run_again (x2.1 ++ ([at' s_.list x2.2] : List gJob), x2.2 + 1) ⟨by omega, by omega, by (simp only [List.length_append, List.length_cons, List.length_nil, List.length_replicate, put_len] at * <;> omega), by (simp only [List.length_append, List.length_cons, List.length_nil, List.length_replicate, put_len] at * <;> omega), by ((have he := congrArg List.length (show x1.2.2 = s_.shifts by assumption); intro t ht; simp only [List.mem_append, List.mem_singleton] at ht; rcases ht with ht | ht; exact (by assumption : ∀ t ∈ x2.1, 0 ≤ t.Airway ∧ t.Airway < s_.mine.Airways.length) t ht; rw [ht]; exact JobsIn.at hp3 (by omega)))⟩ (by omega) (sub_of [(201, 203)] ⟨rfl, rfl, rfl, rfl, rfl, rfl, rfl, rfl, rfl, rfl, rfl, trivial⟩ ⟨rfl, rfl, rfl, trivial⟩ rfl)
            · try simp only [Bool.and_eq_true, Bool.or_eq_true, Bool.not_eq_true', Bool.and_eq_false_iff, Bool.or_eq_false_iff, Bool.not_eq_false', decide_eq_true_eq, decide_eq_false_iff_not, beq_iff_eq, bne_iff_ne, beq_eq_false_iff_ne, bne_eq_false_iff_eq, Bool.true_and, ne_eq, Decidable.not_not, Int.not_lt, Int.not_le, Nat.not_lt, Nat.not_le, strB_nil, strB_nil', strB_nnil, strB_nnil'] at h10
              refine run_skip ?_
              refine run_endB ?_
              refine run_region (q_add .n (.t rfl) (.c rfl) (fun _ => by ((have he := congrArg List.length (show x1.2.2 = s_.shifts by assumption); (try dsimp only); simp only [List.length_append, List.length_cons, List.length_nil] at *; omega))) rfl <|
                  q_move .n (.t rfl) rfl <|
                  Lex.nil) ?_
              exact run_again (x2.1, x2.2 + 1) ⟨by omega, by omega, by (simp only [List.length_append, List.length_cons, List.length_nil, List.length_replicate, put_len] at * <;> omega), by (simp only [List.length_append, List.length_cons, List.length_nil, List.length_replicate, put_len] at * <;> omega), by omega⟩ (by omega) (sub_of [] ⟨rfl, rfl, rfl, rfl, rfl, rfl, rfl, rfl, rfl, rfl, rfl, trivial⟩ ⟨rfl, rfl, rfl, trivial⟩ rfl)
          · try simp only [Bool.and_eq_true, Bool.or_eq_true, Bool.not_eq_true', Bool.and_eq_false_iff, Bool.or_eq_false_iff, Bool.not_eq_false', decide_eq_true_eq, decide_eq_false_iff_not, beq_iff_eq, bne_iff_ne, beq_eq_false_iff_ne, bne_eq_false_iff_eq, Bool.true_and, ne_eq, Decidable.not_not, Int.not_lt, Int.not_le, Nat.not_lt, Nat.not_le, strB_nil, strB_nil', strB_nnil, strB_nnil'] at h9
            refine run_exit rfl ?_
            exact run_cont hk7 (x2.1, x2.2) ⟨by omega, by omega, by omega, by omega, by omega, by omega⟩ (sub_of [] ⟨rfl, rfl, rfl, rfl, rfl, rfl, rfl, rfl, trivial⟩ ⟨rfl, rfl, rfl, trivial⟩ rfl)
      · try simp only [Bool.and_eq_true, Bool.or_eq_true, Bool.not_eq_true', Bool.and_eq_false_iff, Bool.or_eq_false_iff, Bool.not_eq_false', decide_eq_true_eq, decide_eq_false_iff_not, beq_iff_eq, bne_iff_ne, beq_eq_false_iff_ne, bne_eq_false_iff_eq, Bool.true_and, ne_eq, Decidable.not_not, Int.not_lt, Int.not_le, Nat.not_lt, Nat.not_le, strB_nil, strB_nil', strB_nnil, strB_nnil'] at h6
        refine run_exit rfl ?_
        exact run_cont hk4 (x1.1, x1.2.1, x1.2.2) ⟨by omega, by omega, by omega, by omega⟩ (sub_of [] trivial ⟨rfl, rfl, trivial⟩ rfl)
theorem c_impl_shiftSearch_extend (s_ : gshiftSearch) (n_ : Int) (used : Int) (hp1 : MineIn s_.mine) (hp2 : FlowsIn s_.mine s_.flows) (hp3 : JobsIn s_.mine s_.list) (hp4 : (s_.shifts.length : Int) ≤ s_.list.length) (hp5 : 0 ≤ used ∧ used ≤ n_) (hp6 : n_ ≤ 100000) : Con Try.prog 59 [.op 0 0 0 0, .int .i64 n_, .int .i64 used] [(0, some (.box 95 [.int .i64 s_.mine.Junctions, .sl 7 (s_.mine.Airways.map gAirway.v), .sl 1 (s_.flows.map (V.int .i64)), .sl 4 (s_.list.map gJob.v), .int .i64 s_.budget, .os 15 s_.shifts.length])), (15, some (.row 2 1 (s_.shifts.map (V.int .i64))))] (.bool (m_impl_shiftSearch_extend s_ n_ used).1) ([(100, some (.row 2 1 ((m_impl_shiftSearch_extend s_ n_ used).2.shifts.map (V.int .i64)))), (0, some (.box 95 [.int .i64 s_.mine.Junctions, .sl 7 (s_.mine.Airways.map gAirway.v), .sl 1 (s_.flows.map (V.int .i64)), .sl 4 (s_.list.map gJob.v), .int .i64 (m_impl_shiftSearch_extend s_ n_ used).2.budget, .os 100 (m_impl_shiftSearch_extend s_ n_ used).2.shifts.length]))]) := by
  exact c_impl_shiftSearch_extend_n (((s_.list.length : Int) - s_.shifts.length).toNat + 1) s_ n_ used hp1 hp2 hp3 hp4 hp5 hp6 (by omega)


/-! ### impl_FewestShifts -/
set_option maxRecDepth 100000 in
set_option maxHeartbeats 4000000 in
theorem c_impl_FewestShifts (m_ : gMine) (flows : List Int) (list : List gJob) (budget : Int) : Con Try.prog 22 [.st [.int .i64 m_.Junctions, .sl 7 (m_.Airways.map gAirway.v)], .sl 1 (flows.map (V.int .i64)), .sl 4 (list.map gJob.v), .int .i64 budget] [] (.tup [.os 100 (m_impl_FewestShifts m_ flows list budget).1.length, .int .i64 (m_impl_FewestShifts m_ flows list budget).2.1, .int .i64 (m_impl_FewestShifts m_ flows list budget).2.2]) ([(100, some (.row 2 1 ((m_impl_FewestShifts m_ flows list budget).1.map (V.int .i64))))]) := by
  refine con_intro (out := fun r : (List Int) × Int × Int => ((.tup [.os 100 r.1.length, .int .i64 r.2.1, .int .i64 r.2.2] : V), ([(100, some (.row 2 1 (r.1.map (V.int .i64))))] : List (Nat × Option O)))) (r := (m_impl_FewestShifts m_ flows list budget)) Try.func22 rfl Try.ntmps22 rfl ?_
  refine run_factS (t := 0) 1 rfl rfl fun hl => ?_
  have l1 := hl; clear hl; simp only [List.length_map] at l1
  refine run_fact (t := 1) rfl fun hl => ?_
  have l2 := hl; clear hl; simp only [List.length_map] at l2
  refine run_fact (t := 2) rfl fun hl => ?_
  have l3 := hl; clear hl; simp only [List.length_map] at l3
  refine run_seq ?_
  refine run_region (q_box (l := 200) .n rfl (.t rfl) rfl rfl rfl rfl <|
      q_box (l := 201) .n rfl (.t rfl) rfl rfl rfl rfl <|
      q_assign .n (.c rfl) rfl <|
      q_assign .n (.c rfl) rfl <|
      q_assign .n (.c rfl) rfl <|
      Lex.nil) ?_
  refine run_seq ?_
  refine run_region (q_ldN_ow .n (.t rfl) rfl (.inr rfl) ag_33 (fun _ => rfl) rfl rfl <|
      q_ld1_ow .n (.t rfl) rfl (.inr rfl) (fun _ => rfl) rfl ic_25 rfl <|
      q_move .n (.t rfl) rfl <|
      q_call0 (full := false) .n .f en_47 (.cons (.t rfl) (.cons (.t rfl) (.cons (.t rfl) .nil))) (.cons (.sts rfl) (.cons (.b (.a (.same rfl))) (.cons (.b (.a (.same rfl))) .nil))) (fun hg => c_impl_jobsCode m_ flows list) rfl (fun h => Bool.noConfusion h) rfl <|
      q_assign .n (.t rfl) rfl <|
      Lex.nil) ?_
  refine run_seq ?_
  refine run_block ?_
  refine run_seq ?_
  refine run_region (q_move .n (.t rfl) rfl <|
      q_int .n (.t rfl) (.c rfl) rfl rfl <|
      q_assign .n (.t rfl) rfl <|
      Lex.nil) ?_
  refine run_cond (.t rfl) rfl (fun h4 => ?_) (fun h4 => ?_)
  · try simp only [Bool.and_eq_true, Bool.or_eq_true, Bool.not_eq_true', Bool.and_eq_false_iff, Bool.or_eq_false_iff, Bool.not_eq_false', decide_eq_true_eq, decide_eq_false_iff_not, beq_iff_eq, bne_iff_ne, beq_eq_false_iff_ne, bne_eq_false_iff_eq, Bool.true_and, ne_eq, Decidable.not_not, Int.not_lt, Int.not_le, Nat.not_lt, Nat.not_le, strB_nil, strB_nil', strB_nnil, strB_nnil'] at h4
    try have hf0h4 := jobsCode_impM h4
    try have hf1h4 := jobsCode_impM h4.1
    try have hf2h4 := jobsCode_impM h4.2
    try have hf3h4 := jobsCode_impM h4.1.1
    try have hf4h4 := jobsCode_impM h4.1.2
    try have hf5h4 := jobsCode_impM h4.2.1
    try have hf6h4 := jobsCode_impM h4.2.2
    try have hf7h4 := jobsCode_impF h4
    try have hf8h4 := jobsCode_impF h4.1
    try have hf9h4 := jobsCode_impF h4.2
    try have hf10h4 := jobsCode_impF h4.1.1
    try have hf11h4 := jobsCode_impF h4.1.2
    try have hf12h4 := jobsCode_impF h4.2.1
    try have hf13h4 := jobsCode_impF h4.2.2
    try have hf14h4 := jobsCode_impS h4
    try have hf15h4 := jobsCode_impS h4.1
    try have hf16h4 := jobsCode_impS h4.2
    try have hf17h4 := jobsCode_impS h4.1.1
    try have hf18h4 := jobsCode_impS h4.1.2
    try have hf19h4 := jobsCode_impS h4.2.1
    try have hf20h4 := jobsCode_impS h4.2.2
    try have hf21h4 := jobsCode_impJ h4
    try have hf22h4 := jobsCode_impJ h4.1
    try have hf23h4 := jobsCode_impJ h4.2
    try have hf24h4 := jobsCode_impJ h4.1.1
    try have hf25h4 := jobsCode_impJ h4.1.2
    try have hf26h4 := jobsCode_impJ h4.2.1
    try have hf27h4 := jobsCode_impJ h4.2.2
    refine run_seq ?_
    refine run_region (q_move .n (.t rfl) rfl <|
        q_assign .n (.c rfl) rfl <|
        q_assign .n (.c rfl) rfl <|
        q_assign .n (.t rfl) rfl <|
        Lex.nil) ?_
    refine run_sub (sub_adopt (t := 8) (l := 202) (el := 2) (sz := 1) rfl rfl) ?_
    exact run_ret [(100, 202)] (.cons (.t rfl rfl) (.cons (.t rfl rfl) (.cons (.t rfl rfl) .nil))) (by first | rfl | (simp only [put_len]; rfl)) ⟨rfl, trivial⟩ rfl
  · try simp only [Bool.and_eq_true, Bool.or_eq_true, Bool.not_eq_true', Bool.and_eq_false_iff, Bool.or_eq_false_iff, Bool.not_eq_false', decide_eq_true_eq, decide_eq_false_iff_not, beq_iff_eq, bne_iff_ne, beq_eq_false_iff_ne, bne_eq_false_iff_eq, Bool.true_and, ne_eq, Decidable.not_not, Int.not_lt, Int.not_le, Nat.not_lt, Nat.not_le, strB_nil, strB_nil', strB_nnil, strB_nnil'] at h4
    try have hf0h4 := jobsCode_impM h4
    try have hf1h4 := jobsCode_impM h4.1
    try have hf2h4 := jobsCode_impM h4.2
    try have hf3h4 := jobsCode_impM h4.1.1
    try have hf4h4 := jobsCode_impM h4.1.2
    try have hf5h4 := jobsCode_impM h4.2.1
    try have hf6h4 := jobsCode_impM h4.2.2
    try have hf7h4 := jobsCode_impF h4
    try have hf8h4 := jobsCode_impF h4.1
    try have hf9h4 := jobsCode_impF h4.2
    try have hf10h4 := jobsCode_impF h4.1.1
    try have hf11h4 := jobsCode_impF h4.1.2
    try have hf12h4 := jobsCode_impF h4.2.1
    try have hf13h4 := jobsCode_impF h4.2.2
    try have hf14h4 := jobsCode_impS h4
    try have hf15h4 := jobsCode_impS h4.1
    try have hf16h4 := jobsCode_impS h4.2
    try have hf17h4 := jobsCode_impS h4.1.1
    try have hf18h4 := jobsCode_impS h4.1.2
    try have hf19h4 := jobsCode_impS h4.2.1
    try have hf20h4 := jobsCode_impS h4.2.2
    try have hf21h4 := jobsCode_impJ h4
    try have hf22h4 := jobsCode_impJ h4.1
    try have hf23h4 := jobsCode_impJ h4.2
    try have hf24h4 := jobsCode_impJ h4.1.1
    try have hf25h4 := jobsCode_impJ h4.1.2
    try have hf26h4 := jobsCode_impJ h4.2.1
    try have hf27h4 := jobsCode_impJ h4.2.2
    refine run_seq ?_
    refine run_region (q_move .n (.t rfl) rfl <|
        q_call0 (full := false) .n .f en_48 (.cons (.t rfl) .nil) (.cons (.b (.a (.same rfl))) .nil) (fun hg => c_impl_budgetValid budget) rfl (fun h => Bool.noConfusion h) rfl <|
        q_not .n (.t rfl) rfl <|
        q_assign .n (.t rfl) rfl <|
        Lex.nil) ?_
    refine run_cond (.t rfl) rfl (fun h5 => ?_) (fun h5 => ?_)
    · try simp only [Bool.and_eq_true, Bool.or_eq_true, Bool.not_eq_true', Bool.and_eq_false_iff, Bool.or_eq_false_iff, Bool.not_eq_false', decide_eq_true_eq, decide_eq_false_iff_not, beq_iff_eq, bne_iff_ne, beq_eq_false_iff_ne, bne_eq_false_iff_eq, Bool.true_and, ne_eq, Decidable.not_not, Int.not_lt, Int.not_le, Nat.not_lt, Nat.not_le, strB_nil, strB_nil', strB_nnil, strB_nnil'] at h5
      try have hf0h5 := budget_imp h5
      try have hf1h5 := budget_imp h5.1
      try have hf2h5 := budget_imp h5.2
      try have hf3h5 := budget_imp h5.1.1
      try have hf4h5 := budget_imp h5.1.2
      try have hf5h5 := budget_imp h5.2.1
      try have hf6h5 := budget_imp h5.2.2
      refine run_seq ?_
      refine run_region (q_assign .n (.c rfl) rfl <|
          q_assign .n (.c rfl) rfl <|
          q_assign .n (.c rfl) rfl <|
          Lex.nil) ?_
      refine run_sub (sub_adopt (t := 8) (l := 203) (el := 2) (sz := 1) rfl rfl) ?_
      exact run_ret [(100, 203)] (.cons (.t rfl rfl) (.cons (.t rfl rfl) (.cons (.t rfl rfl) .nil))) (by first | rfl | (simp only [put_len]; rfl)) ⟨rfl, trivial⟩ rfl
    · try simp only [Bool.and_eq_true, Bool.or_eq_true, Bool.not_eq_true', Bool.and_eq_false_iff, Bool.or_eq_false_iff, Bool.not_eq_false', decide_eq_true_eq, decide_eq_false_iff_not, beq_iff_eq, bne_iff_ne, beq_eq_false_iff_ne, bne_eq_false_iff_eq, Bool.true_and, ne_eq, Decidable.not_not, Int.not_lt, Int.not_le, Nat.not_lt, Nat.not_le, strB_nil, strB_nil', strB_nnil, strB_nnil'] at h5
      try have hf0h5 := budget_imp h5
      try have hf1h5 := budget_imp h5.1
      try have hf2h5 := budget_imp h5.2
      try have hf3h5 := budget_imp h5.1.1
      try have hf4h5 := budget_imp h5.1.2
      try have hf5h5 := budget_imp h5.2.1
      try have hf6h5 := budget_imp h5.2.2
      refine run_seq ?_
      refine run_region (q_move .n (.t rfl) rfl <|
          q_int .n (.t rfl) (.c rfl) rfl rfl <|
          q_assign .n (.t rfl) rfl <|
          Lex.nil) ?_
      refine run_cond (.t rfl) rfl (fun h6 => ?_) (fun h6 => ?_)
      · try simp only [Bool.and_eq_true, Bool.or_eq_true, Bool.not_eq_true', Bool.and_eq_false_iff, Bool.or_eq_false_iff, Bool.not_eq_false', decide_eq_true_eq, decide_eq_false_iff_not, beq_iff_eq, bne_iff_ne, beq_eq_false_iff_ne, bne_eq_false_iff_eq, Bool.true_and, ne_eq, Decidable.not_not, Int.not_lt, Int.not_le, Nat.not_lt, Nat.not_le, strB_nil, strB_nil', strB_nnil, strB_nnil'] at h6
        try have hf0h6 := jobsCode_impM h6
        try have hf1h6 := jobsCode_impM h6.1
        try have hf2h6 := jobsCode_impM h6.2
        try have hf3h6 := jobsCode_impM h6.1.1
        try have hf4h6 := jobsCode_impM h6.1.2
        try have hf5h6 := jobsCode_impM h6.2.1
        try have hf6h6 := jobsCode_impM h6.2.2
        try have hf7h6 := jobsCode_impF h6
        try have hf8h6 := jobsCode_impF h6.1
        try have hf9h6 := jobsCode_impF h6.2
        try have hf10h6 := jobsCode_impF h6.1.1
        try have hf11h6 := jobsCode_impF h6.1.2
        try have hf12h6 := jobsCode_impF h6.2.1
        try have hf13h6 := jobsCode_impF h6.2.2
        try have hf14h6 := jobsCode_impS h6
        try have hf15h6 := jobsCode_impS h6.1
        try have hf16h6 := jobsCode_impS h6.2
        try have hf17h6 := jobsCode_impS h6.1.1
        try have hf18h6 := jobsCode_impS h6.1.2
        try have hf19h6 := jobsCode_impS h6.2.1
        try have hf20h6 := jobsCode_impS h6.2.2
        try have hf21h6 := jobsCode_impJ h6
        try have hf22h6 := jobsCode_impJ h6.1
        try have hf23h6 := jobsCode_impJ h6.2
        try have hf24h6 := jobsCode_impJ h6.1.1
        try have hf25h6 := jobsCode_impJ h6.1.2
        try have hf26h6 := jobsCode_impJ h6.2.1
        try have hf27h6 := jobsCode_impJ h6.2.2
        refine run_seq ?_
        refine run_region (q_move .n (.t rfl) rfl <|
            q_assign .n (.c rfl) rfl <|
            q_assign .n (.c rfl) rfl <|
            q_assign .n (.t rfl) rfl <|
            Lex.nil) ?_
        refine run_sub (sub_adopt (t := 8) (l := 204) (el := 2) (sz := 1) rfl rfl) ?_
        exact run_ret [(100, 204)] (.cons (.t rfl rfl) (.cons (.t rfl rfl) (.cons (.t rfl rfl) .nil))) (by first | rfl | (simp only [put_len]; rfl)) ⟨rfl, trivial⟩ rfl
      · try simp only [Bool.and_eq_true, Bool.or_eq_true, Bool.not_eq_true', Bool.and_eq_false_iff, Bool.or_eq_false_iff, Bool.not_eq_false', decide_eq_true_eq, decide_eq_false_iff_not, beq_iff_eq, bne_iff_ne, beq_eq_false_iff_ne, bne_eq_false_iff_eq, Bool.true_and, ne_eq, Decidable.not_not, Int.not_lt, Int.not_le, Nat.not_lt, Nat.not_le, strB_nil, strB_nil', strB_nnil, strB_nnil'] at h6
        try have hf0h6 := jobsCode_impM h6
        try have hf1h6 := jobsCode_impM h6.1
        try have hf2h6 := jobsCode_impM h6.2
        try have hf3h6 := jobsCode_impM h6.1.1
        try have hf4h6 := jobsCode_impM h6.1.2
        try have hf5h6 := jobsCode_impM h6.2.1
        try have hf6h6 := jobsCode_impM h6.2.2
        try have hf7h6 := jobsCode_impF h6
        try have hf8h6 := jobsCode_impF h6.1
        try have hf9h6 := jobsCode_impF h6.2
        try have hf10h6 := jobsCode_impF h6.1.1
        try have hf11h6 := jobsCode_impF h6.1.2
        try have hf12h6 := jobsCode_impF h6.2.1
        try have hf13h6 := jobsCode_impF h6.2.2
        try have hf14h6 := jobsCode_impS h6
        try have hf15h6 := jobsCode_impS h6.1
        try have hf16h6 := jobsCode_impS h6.2
        try have hf17h6 := jobsCode_impS h6.1.1
        try have hf18h6 := jobsCode_impS h6.1.2
        try have hf19h6 := jobsCode_impS h6.2.1
        try have hf20h6 := jobsCode_impS h6.2.2
        try have hf21h6 := jobsCode_impJ h6
        try have hf22h6 := jobsCode_impJ h6.1
        try have hf23h6 := jobsCode_impJ h6.2
        try have hf24h6 := jobsCode_impJ h6.1.1
        try have hf25h6 := jobsCode_impJ h6.1.2
        try have hf26h6 := jobsCode_impJ h6.2.1
        try have hf27h6 := jobsCode_impJ h6.2.2
        refine run_seq ?_
        refine run_region (q_move .n (.t rfl) rfl <|
            q_clo .n (.cons (.t rfl) (.cons (.t rfl) .nil)) rfl rfl <|
            q_call0 (full := true) .n .f en_56 (.cons (.t rfl) (.cons (.t rfl) .nil)) (.cons (.b (.a (.same rfl))) (.cons (.clo (.cons (.ptr rfl rfl (.inr rfl) rfl rfl (.cons (.same rfl) (.cons (.same rfl) .nil))) (.cons (.ptr rfl rfl (.inr rfl) rfl rfl (.cons (.same rfl) .nil)) .nil))) .nil)) (fun hg => c_slices_ContainsFunc_impl_Job list (fun (a0 : gJob) => m_impl_FewestShifts_1 a0 m_ flows) 57 [.rp [.int .i64 m_.Junctions, .sl 7 (m_.Airways.map gAirway.v)], .rp [.sl 1 (flows.map (V.int .i64))]] en_57 rfl (fun t => 0 ≤ t.Airway ∧ t.Airway < m_.Airways.length) (fun a0 hq0 => c_impl_FewestShifts_1 a0 m_ flows (by (try dsimp only at *); omega) (by (try dsimp only at *); omega) (by (try dsimp only at *); omega)) (by (exact (by assumption : JobsIn _ _).air))) rfl (fun _ => rfl) rfl <|
            q_assign .n (.t rfl) rfl <|
            Lex.nil) ?_
        refine run_cond (.t rfl) rfl (fun h7 => ?_) (fun h7 => ?_)
        · try simp only [Bool.and_eq_true, Bool.or_eq_true, Bool.not_eq_true', Bool.and_eq_false_iff, Bool.or_eq_false_iff, Bool.not_eq_false', decide_eq_true_eq, decide_eq_false_iff_not, beq_iff_eq, bne_iff_ne, beq_eq_false_iff_ne, bne_eq_false_iff_eq, Bool.true_and, ne_eq, Decidable.not_not, Int.not_lt, Int.not_le, Nat.not_lt, Nat.not_le, strB_nil, strB_nil', strB_nnil, strB_nnil'] at h7
          try have hf0h7 := cont_imp h7
          try have hf1h7 := cont_imp h7.1
          try have hf2h7 := cont_imp h7.2
          try have hf3h7 := cont_imp h7.1.1
          try have hf4h7 := cont_imp h7.1.2
          try have hf5h7 := cont_imp h7.2.1
          try have hf6h7 := cont_imp h7.2.2
          refine run_seq ?_
          refine run_region (q_assign .n (.c rfl) rfl <|
              q_assign .n (.c rfl) rfl <|
              q_assign .n (.c rfl) rfl <|
              Lex.nil) ?_
          refine run_sub (sub_adopt (t := 8) (l := 205) (el := 2) (sz := 1) rfl rfl) ?_
          exact run_ret [(100, 205)] (.cons (.t rfl rfl) (.cons (.t rfl rfl) (.cons (.t rfl rfl) .nil))) (by first | rfl | (simp only [put_len]; rfl)) ⟨rfl, trivial⟩ rfl
        · try simp only [Bool.and_eq_true, Bool.or_eq_true, Bool.not_eq_true', Bool.and_eq_false_iff, Bool.or_eq_false_iff, Bool.not_eq_false', decide_eq_true_eq, decide_eq_false_iff_not, beq_iff_eq, bne_iff_ne, beq_eq_false_iff_ne, bne_eq_false_iff_eq, Bool.true_and, ne_eq, Decidable.not_not, Int.not_lt, Int.not_le, Nat.not_lt, Nat.not_le, strB_nil, strB_nil', strB_nnil, strB_nnil'] at h7
          try have hf0h7 := cont_imp h7
          try have hf1h7 := cont_imp h7.1
          try have hf2h7 := cont_imp h7.2
          try have hf3h7 := cont_imp h7.1.1
          try have hf4h7 := cont_imp h7.1.2
          try have hf5h7 := cont_imp h7.2.1
          try have hf6h7 := cont_imp h7.2.2
          refine run_skip ?_
          refine run_endB ?_
          refine run_seq ?_
          refine run_region (q_ldN_ow .n (.t rfl) rfl (.inr rfl) ag_33 (fun _ => rfl) rfl rfl <|
              q_ld1_ow .n (.t rfl) rfl (.inr rfl) (fun _ => rfl) rfl ic_25 rfl <|
              q_move .n (.t rfl) rfl <|
              q_move .n (.t rfl) rfl <|
              q_build (us := [.int .i64 m_.Junctions, .sl 7 (m_.Airways.map gAirway.v), .sl 1 (flows.map (V.int .i64)), .sl 4 (list.map gJob.v), .int .i64 budget, .nls]) .n (.cons (.t rfl) (.cons (.t rfl) (.cons (.t rfl) (.cons (.t rfl) .nil)))) zv_95 pl_95 rfl rfl rfl <|
              q_alloc (l := 206) .n rfl zv_95 rfl rfl <|
              q_st_boxm [.int .i64 m_.Junctions, .sl 7 (m_.Airways.map gAirway.v), .sl 1 (flows.map (V.int .i64)), .sl 4 (list.map gJob.v), .int .i64 budget, .nls] .n rfl (.t rfl) (.t rfl) rfl ts_95 rfl rfl <|
              Lex.nil) ?_
          refine run_seq ?_
          refine run_region (q_assign .n (.c rfl) rfl <|
              Lex.nil) ?_
          refine run_block ?_
          refine run_sub (sub_adoptb (b := 206) (l := 207) (el := 2) (sz := 1) 5 rfl rfl rfl rfl) ?_
          refine run_LOOP (m_impl_FewestShifts_b1 m_ flows list budget) _ _ _ rfl (fun (x1 : Int × (List Int) × Int) => 0 ≤ x1.2.2 ∧ x1.2.1 = [] ∧ (0 ≤ x1.1 ∧ x1.1 ≤ budget) ∧ (0 ≤ x1.2.2 ∧ x1.2.2 + x1.1 ≤ budget + 1)) (fun x1 => False) (fun x1 => (2 * x1.1 + (if x1.2.2 = 0 then 1 else 0)).toNat) (fun x1 => ⟨[(12, some (true, .op 206 0 0 0)), (13, some (true, .int .i64 x1.2.2))], [(206, some (.box 95 [.int .i64 m_.Junctions, .sl 7 (m_.Airways.map gAirway.v), .sl 1 (flows.map (V.int .i64)), .sl 4 (list.map gJob.v), .int .i64 x1.1, .os 207 x1.2.1.length])), (207, some (.row 2 1 (x1.2.1.map (V.int .i64))))]⟩) (fun x1 => ⟨[], []⟩) ⟨by (simp only [List.length_append, List.length_cons, List.length_nil, List.length_replicate, put_len] at * <;> omega), by (simp only [List.length_append, List.length_cons, List.length_nil, List.length_replicate, put_len] at * <;> omega), by omega, by (simp only [List.length_append, List.length_cons, List.length_nil, List.length_replicate, put_len] at * <;> omega)⟩ (by omega) (sub_of [] ⟨rfl, rfl, trivial⟩ ⟨rfl, rfl, trivial⟩ rfl) ?_ ?_
          · intro x1 i12
            exact i12.elim
          · intro rec1 k1 hk8 x1 i9
            obtain ⟨e13, e14, e15, e16⟩ := i9
            try dsimp only at *
            refine run_seq ?_
            refine run_block ?_
            refine run_seq ?_
            refine run_seq ?_
            refine run_region (q_move .n (.t rfl) rfl <|
                q_callM (full := false) [(0, 206), (15, 207)] [(100, 208)] .n rfl .f en_59 (.cons (.t rfl) (.cons (.t rfl) (.cons (.c rfl) .nil))) (.cons (.b (.mutp rfl)) (.cons (.b (.a (.same rfl))) (.cons (.b (.a (.same rfl))) .nil))) (c_impl_shiftSearch_extend (gshiftSearch.mk m_ flows list x1.1 x1.2.1) x1.2.2 0 (by omega) (by omega) (by omega) (by ((have he := (show x1.2.1 = [] by assumption); (try dsimp only); rw [he]; exact Int.natCast_nonneg _))) (by omega) (by omega)) ⟨rfl, rfl, trivial⟩ rfl rfl (fun h => Bool.noConfusion h) (fun h => Bool.noConfusion h) rfl <|
                Lex.nil) ?_
            refine run_cond (.t rfl) rfl (fun h10 => ?_) (fun h10 => ?_)
            · try simp only [Bool.and_eq_true, Bool.or_eq_true, Bool.not_eq_true', Bool.and_eq_false_iff, Bool.or_eq_false_iff, Bool.not_eq_false', decide_eq_true_eq, decide_eq_false_iff_not, beq_iff_eq, bne_iff_ne, beq_eq_false_iff_ne, bne_eq_false_iff_eq, Bool.true_and, ne_eq, Decidable.not_not, Int.not_lt, Int.not_le, Nat.not_lt, Nat.not_le, strB_nil, strB_nil', strB_nnil, strB_nnil'] at h10
              refine run_seq ?_
              refine run_region (q_fld_ow .n (.t rfl) fo_95_4 rfl <|
                  q_ld1_ow .n (.t rfl) rfl (.inr rfl) (fun _ => rfl) rfl ic_25 rfl <|
                  q_move .n (.t rfl) rfl <|
                  q_assign .n (.t rfl) rfl <|
                  q_assign .n (.t rfl) rfl <|
                  q_assign .n (.c rfl) rfl <|
                  Lex.nil) ?_
              exact run_ret [(100, 208)] (.cons (.t rfl rfl) (.cons (.t rfl rfl) (.cons (.t rfl rfl) .nil))) (by first | rfl | (simp only [put_len]; rfl)) ⟨rfl, trivial⟩ rfl
            · try simp only [Bool.and_eq_true, Bool.or_eq_true, Bool.not_eq_true', Bool.and_eq_false_iff, Bool.or_eq_false_iff, Bool.not_eq_false', decide_eq_true_eq, decide_eq_false_iff_not, beq_iff_eq, bne_iff_ne, beq_eq_false_iff_ne, bne_eq_false_iff_eq, Bool.true_and, ne_eq, Decidable.not_not, Int.not_lt, Int.not_le, Nat.not_lt, Nat.not_le, strB_nil, strB_nil', strB_nnil, strB_nnil'] at h10
              refine run_skip ?_
              refine run_seq ?_
              refine run_region (q_fld_ow .n (.t rfl) fo_95_3 rfl <|
                  q_ld1_ow .n (.t rfl) rfl (.inr rfl) (fun _ => rfl) rfl ic_2 rfl <|
                  q_int .n (.t rfl) (.c rfl) rfl rfl <|
                  Lex.nil) ?_
              refine run_cond (.t rfl) rfl (fun h11 => ?_) (fun h11 => ?_)
              · try simp only [Bool.and_eq_true, Bool.or_eq_true, Bool.not_eq_true', Bool.and_eq_false_iff, Bool.or_eq_false_iff, Bool.not_eq_false', decide_eq_true_eq, decide_eq_false_iff_not, beq_iff_eq, bne_iff_ne, beq_eq_false_iff_ne, bne_eq_false_iff_eq, Bool.true_and, ne_eq, Decidable.not_not, Int.not_lt, Int.not_le, Nat.not_lt, Nat.not_le, strB_nil, strB_nil', strB_nnil, strB_nnil'] at h11
                refine run_seq ?_
                refine run_region (q_assign .n (.c rfl) rfl <|
                    q_assign .n (.c rfl) rfl <|
                    q_assign .n (.c rfl) rfl <|
                    Lex.nil) ?_
                refine run_sub (sub_adopt (t := 8) (l := 209) (el := 2) (sz := 1) rfl rfl) ?_
                exact run_ret [(100, 209)] (.cons (.t rfl rfl) (.cons (.t rfl rfl) (.cons (.t rfl rfl) .nil))) (by first | rfl | (simp only [put_len]; rfl)) ⟨rfl, trivial⟩ rfl
              · try simp only [Bool.and_eq_true, Bool.or_eq_true, Bool.not_eq_true', Bool.and_eq_false_iff, Bool.or_eq_false_iff, Bool.not_eq_false', decide_eq_true_eq, decide_eq_false_iff_not, beq_iff_eq, bne_iff_ne, beq_eq_false_iff_ne, bne_eq_false_iff_eq, Bool.true_and, ne_eq, Decidable.not_not, Int.not_lt, Int.not_le, Nat.not_lt, Nat.not_le, strB_nil, strB_nil', strB_nnil, strB_nnil'] at h11
                refine run_skip ?_
                refine run_endB ?_
                refine run_region (q_move .n (.t rfl) rfl <|
                    q_add .n (.t rfl) (.c rfl) (fun _ => by omega) rfl <|
                    q_assign .n (.t rfl) rfl <|
                    Lex.nil) ?_
                exact run_again ((m_impl_shiftSearch_extend (gshiftSearch.mk m_ flows list x1.1 x1.2.1) x1.2.2 0).2.budget, (m_impl_shiftSearch_extend (gshiftSearch.mk m_ flows list x1.1 x1.2.1) x1.2.2 0).2.shifts, x1.2.2 + 1) ⟨by (simp only [List.length_append, List.length_cons, List.length_nil, List.length_replicate, put_len] at * <;> omega), by ((have he := (show x1.2.1 = [] by assumption); (try simp only [he] at *); exact round_sh (by assumption) (by omega) (by omega) (by assumption) (by assumption))), by ((have he := (show x1.2.1 = [] by assumption); (try simp only [he] at *); have hq := round_bd (b := x1.1) (n := x1.2.2) (by assumption : JobsIn m_ list) (by omega) (by omega) (by assumption) (by assumption); omega)), by ((have he := (show x1.2.1 = [] by assumption); (try simp only [he] at *); have hq := round_bd (b := x1.1) (n := x1.2.2) (by assumption : JobsIn m_ list) (by omega) (by omega) (by assumption) (by assumption); omega))⟩ (by ((have he := (show x1.2.1 = [] by assumption); (try simp only [he] at *); have hq := round_bd (b := x1.1) (n := x1.2.2) (by assumption : JobsIn m_ list) (by omega) (by omega) (by assumption) (by assumption); omega))) (sub_of [(207, 208)] ⟨rfl, rfl, trivial⟩ ⟨rfl, rfl, trivial⟩ rfl)


end Go.Proofs.Ytchjibndocnnhaa
