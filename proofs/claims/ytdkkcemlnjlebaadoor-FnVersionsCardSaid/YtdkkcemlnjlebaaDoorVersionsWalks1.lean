/-
  THE WALKS: each Go function computes its model. Conditions: as each theorem states them (hp1, hp2 ..).
-/
import Derived.Test.YtdkkcemlnjlebaaDoorVersionsPlain4
import Derived.Test.YtdkkcemlnjlebaaDoorProg
import Derived.Test.YtdkkcemlnjlebaaDoorEngS
import Derived.Test.YtdkkcemlnjlebaaDoorEngP
import Derived.Test.YtdkkcemlnjlebaaDoorEngQ
import Derived.Test.YtdkkcemlnjlebaaDoorEngR
import Derived.Test.YtdkkcemlnjlebaaDoorEngU
import Derived.Test.YtdkkcemlnjlebaaDoorEngX
set_option linter.unusedVariables false
set_option linter.unusedSimpArgs false
set_option linter.unusedSectionVars false
set_option linter.unnecessarySimpa false
namespace Go.Proofs.YtdkkcemlnjlebaaDoor
open Go Go.RowKit Go.Proofs Go.Proofs.YtdkkcemlnjlebaaDoor.E
theorem st_9 : isStr Tryd.prog 9 = true := by kernel_rfl
theorem en_95 : entB Tryd.prog 95 = true := by kernel_rfl
theorem fo_75_0 : fldOff Tryd.prog 75 0 = some 0 := by kernel_rfl
theorem ic_9 : isCell Tryd.prog 9 = true := by kernel_rfl
theorem en_79 : entB Tryd.prog 79 = true := by kernel_rfl
theorem fo_75_1 : fldOff Tryd.prog 75 1 = some 1 := by kernel_rfl
theorem ic_2 : isCell Tryd.prog 2 = true := by kernel_rfl
theorem en_59 : entB Tryd.prog 59 = true := by kernel_rfl
theorem ss_34 : (slEl Tryd.prog 34).isSome = true := by kernel_rfl
theorem sl_34 : slEl Tryd.prog 34 = some (75, 2) := by kernel_rfl
theorem ag_75 : aggSz Tryd.prog 75 = some 2 := by kernel_rfl
theorem zv_75 : zeroV Tryd.prog 75 = some (.st [.str ([] : List UInt8), .int .i64 0]) := by kernel_rfl
theorem ts_75 : tySz Tryd.prog 75 = some 2 := by kernel_rfl
theorem en_49 : entB Tryd.prog 49 = true := by kernel_rfl
theorem fmo : Tryd.prog.follows .mixedOrders = true := by kernel_rfl
theorem en_84 : entB Tryd.prog 84 = true := by kernel_rfl
theorem ss_24 : (slEl Tryd.prog 24).isSome = true := by kernel_rfl
theorem sl_24 : slEl Tryd.prog 24 = some (54, 4) := by kernel_rfl
theorem ag_54 : aggSz Tryd.prog 54 = some 4 := by kernel_rfl
theorem zv_54 : zeroV Tryd.prog 54 = some (.st [.int .i64 0, .int .i64 0, .str ([] : List UInt8), .nls]) := by kernel_rfl
theorem ts_54 : tySz Tryd.prog 54 = some 4 := by kernel_rfl
theorem fo_54_0 : fldOff Tryd.prog 54 0 = some 0 := by kernel_rfl
theorem fo_54_1 : fldOff Tryd.prog 54 1 = some 1 := by kernel_rfl
theorem fo_54_2 : fldOff Tryd.prog 54 2 = some 2 := by kernel_rfl
theorem en_58 : entB Tryd.prog 58 = true := by kernel_rfl
theorem fo_54_3 : fldOff Tryd.prog 54 3 = some 3 := by kernel_rfl
theorem ic_34 : isCell Tryd.prog 34 = true := by kernel_rfl
theorem en_46 : entB Tryd.prog 46 = true := by kernel_rfl
theorem ss_45 : (slEl Tryd.prog 45).isSome = true := by kernel_rfl
theorem sl_45 : slEl Tryd.prog 45 = some (2, 1) := by kernel_rfl
theorem en_100 : entB Tryd.prog 100 = true := by kernel_rfl
theorem en_91 : entB Tryd.prog 91 = true := by kernel_rfl
theorem en_90 : entB Tryd.prog 90 = true := by kernel_rfl
theorem en_57 : entB Tryd.prog 57 = true := by kernel_rfl
theorem en_70 : entB Tryd.prog 70 = true := by kernel_rfl
theorem us_34 : Tryd.prog.underlying 34 = some (.slice 75) := by kernel_rfl
theorem si_34 : slInfo Tryd.prog 34 = some (75, 2, 24) := by kernel_rfl
theorem us_24 : Tryd.prog.underlying 24 = some (.slice 54) := by kernel_rfl
theorem si_24 : slInfo Tryd.prog 24 = some (54, 4, 56) := by kernel_rfl
theorem en_71 : entB Tryd.prog 71 = true := by kernel_rfl
theorem pl_54 : places Tryd.prog 54 = some [(0, 1), (1, 1), (2, 1), (3, 1)] := by kernel_rfl
theorem en_51 : entB Tryd.prog 51 = true := by kernel_rfl
theorem ts_34 : tySz Tryd.prog 34 = some 1 := by kernel_rfl
theorem en_72 : entB Tryd.prog 72 = true := by kernel_rfl
theorem si_45 : slInfo Tryd.prog 45 = some (2, 1, 8) := by kernel_rfl
theorem zv_2 : zeroV Tryd.prog 2 = some (.int .i64 0) := by kernel_rfl
theorem en_34 : entB Tryd.prog 34 = true := by kernel_rfl
theorem en_36 : entB Tryd.prog 36 = true := by kernel_rfl
theorem en_37 : entB Tryd.prog 37 = true := by kernel_rfl
theorem en_35 : entB Tryd.prog 35 = true := by kernel_rfl
theorem ss_31 : (slEl Tryd.prog 31).isSome = true := by kernel_rfl
theorem zv_102 : zeroV Tryd.prog 102 = some (.st [.nls, .int .i64 0, .int .u64 0]) := by kernel_rfl
theorem pl_102 : places Tryd.prog 102 = some [(0, 1), (1, 1), (2, 1)] := by kernel_rfl
theorem fo_102_1 : fldOff Tryd.prog 102 1 = some 1 := by kernel_rfl
theorem ic_3 : isCell Tryd.prog 3 = true := by kernel_rfl
theorem fo_102_0 : fldOff Tryd.prog 102 0 = some 0 := by kernel_rfl
theorem ic_31 : isCell Tryd.prog 31 = true := by kernel_rfl
theorem sl_31 : slEl Tryd.prog 31 = some (5, 1) := by kernel_rfl
theorem ic_5 : isCell Tryd.prog 5 = true := by kernel_rfl
theorem cv_5_3 : cvInt Tryd.prog 5 3 = some .i64 := by kernel_rfl
theorem ts_3 : tySz Tryd.prog 3 = some 1 := by kernel_rfl
theorem fo_102_2 : fldOff Tryd.prog 102 2 = some 2 := by kernel_rfl
theorem ic_100 : isCell Tryd.prog 100 = true := by kernel_rfl
theorem cv_3_100 : cvInt Tryd.prog 3 100 = some .u64 := by kernel_rfl
theorem ts_100 : tySz Tryd.prog 100 = some 1 := by kernel_rfl
theorem cv_100_2 : cvInt Tryd.prog 100 2 = some .i64 := by kernel_rfl
theorem en_94 : entB Tryd.prog 94 = true := by kernel_rfl
theorem en_74 : entB Tryd.prog 74 = true := by kernel_rfl
theorem si_105 : slInfo Tryd.prog 105 = some (9, 1, 16) := by kernel_rfl
theorem zv_9 : zeroV Tryd.prog 9 = some (.str ([] : List UInt8)) := by kernel_rfl
theorem en_76 : entB Tryd.prog 76 = true := by kernel_rfl
theorem sl_105 : slEl Tryd.prog 105 = some (9, 1) := by kernel_rfl
theorem pl_75 : places Tryd.prog 75 = some [(0, 1), (1, 1)] := by kernel_rfl
theorem en_77 : entB Tryd.prog 77 = true := by kernel_rfl
theorem en_78 : entB Tryd.prog 78 = true := by kernel_rfl
theorem ss_105 : (slEl Tryd.prog 105).isSome = true := by kernel_rfl
theorem en_44 : entB Tryd.prog 44 = true := by kernel_rfl
theorem en_45 : entB Tryd.prog 45 = true := by kernel_rfl
theorem en_75 : entB Tryd.prog 75 = true := by kernel_rfl
theorem ts_9 : tySz Tryd.prog 9 = some 1 := by kernel_rfl
theorem en_42 : entB Tryd.prog 42 = true := by kernel_rfl
theorem en_43 : entB Tryd.prog 43 = true := by kernel_rfl
theorem en_47 : entB Tryd.prog 47 = true := by kernel_rfl
theorem zv_79 : zeroV Tryd.prog 79 = some (.st [.int .i64 0, .str ([] : List UInt8), .int .i64 0]) := by kernel_rfl
theorem pl_79 : places Tryd.prog 79 = some [(0, 1), (1, 2)] := by kernel_rfl
theorem si_37 : slInfo Tryd.prog 37 = some (79, 3, 32) := by kernel_rfl
theorem fo_79_0 : fldOff Tryd.prog 79 0 = some 0 := by kernel_rfl
theorem fo_79_1 : fldOff Tryd.prog 79 1 = some 1 := by kernel_rfl
theorem ss_37 : (slEl Tryd.prog 37).isSome = true := by kernel_rfl
theorem sl_37 : slEl Tryd.prog 37 = some (79, 3) := by kernel_rfl
theorem ag_79 : aggSz Tryd.prog 79 = some 3 := by kernel_rfl
theorem en_80 : entB Tryd.prog 80 = true := by kernel_rfl
theorem cv_3_110 : cvInt Tryd.prog 3 110 = some .u64 := by kernel_rfl
theorem cv_110_3 : cvInt Tryd.prog 110 3 = some .i64 := by kernel_rfl
theorem en_96 : entB Tryd.prog 96 = true := by kernel_rfl
theorem en_81 : entB Tryd.prog 81 = true := by kernel_rfl
theorem ui_3 : Tryd.prog.underlying 3 = some (.int .i64) := by kernel_rfl
theorem ov_82 : ovE Tryd.prog 82 = some (Extern.SlicesOverlaps.overlaps #[34, 34] #[4]) := by kernel_rfl
theorem en_48 : entB Tryd.prog 48 = true := by kernel_rfl
theorem en_50 : entB Tryd.prog 50 = true := by kernel_rfl
theorem ts_79 : tySz Tryd.prog 79 = some 3 := by kernel_rfl
theorem en_53 : entB Tryd.prog 53 = true := by kernel_rfl
theorem en_52 : entB Tryd.prog 52 = true := by kernel_rfl
theorem en_54 : entB Tryd.prog 54 = true := by kernel_rfl
theorem en_55 : entB Tryd.prog 55 = true := by kernel_rfl
theorem en_56 : entB Tryd.prog 56 = true := by kernel_rfl
theorem cv_5_2 : cvInt Tryd.prog 5 2 = some .i64 := by kernel_rfl
theorem en_60 : entB Tryd.prog 60 = true := by kernel_rfl
theorem en_85 : entB Tryd.prog 85 = true := by kernel_rfl
theorem en_62 : entB Tryd.prog 62 = true := by kernel_rfl
theorem en_61 : entB Tryd.prog 61 = true := by kernel_rfl
theorem en_98 : entB Tryd.prog 98 = true := by kernel_rfl
theorem en_86 : entB Tryd.prog 86 = true := by kernel_rfl
theorem en_63 : entB Tryd.prog 63 = true := by kernel_rfl
theorem en_106 : entB Tryd.prog 106 = true := by kernel_rfl
theorem en_107 : entB Tryd.prog 107 = true := by kernel_rfl
theorem en_99 : entB Tryd.prog 99 = true := by kernel_rfl
theorem en_65 : entB Tryd.prog 65 = true := by kernel_rfl
theorem en_88 : entB Tryd.prog 88 = true := by kernel_rfl
theorem en_66 : entB Tryd.prog 66 = true := by kernel_rfl
theorem en_67 : entB Tryd.prog 67 = true := by kernel_rfl
theorem en_28 : entB Tryd.prog 28 = true := by kernel_rfl
theorem en_12 : entB Tryd.prog 12 = true := by kernel_rfl
theorem en_13 : entB Tryd.prog 13 = true := by kernel_rfl
theorem en_14 : entB Tryd.prog 14 = true := by kernel_rfl
theorem en_15 : entB Tryd.prog 15 = true := by kernel_rfl
theorem en_16 : entB Tryd.prog 16 = true := by kernel_rfl
theorem en_17 : entB Tryd.prog 17 = true := by kernel_rfl
theorem en_18 : entB Tryd.prog 18 = true := by kernel_rfl
theorem en_19 : entB Tryd.prog 19 = true := by kernel_rfl
theorem en_20 : entB Tryd.prog 20 = true := by kernel_rfl
theorem en_8 : entB Tryd.prog 8 = true := by kernel_rfl
theorem en_21 : entB Tryd.prog 21 = true := by kernel_rfl
theorem en_22 : entB Tryd.prog 22 = true := by kernel_rfl
theorem en_23 : entB Tryd.prog 23 = true := by kernel_rfl
theorem en_24 : entB Tryd.prog 24 = true := by kernel_rfl
theorem en_25 : entB Tryd.prog 25 = true := by kernel_rfl
theorem ub_4 : Tryd.prog.underlying 4 = some .bool := by kernel_rfl
theorem en_26 : entB Tryd.prog 26 = true := by kernel_rfl

/-! ### impl_within -/
theorem c_impl_within (n_ : Int) (low : Int) (high : Int) : Con Tryd.prog 59 [.int .i64 n_, .int .i64 low, .int .i64 high] [] (.bool (m_impl_within n_ low high)) ([]) := by
  refine con_intro (out := fun r : Bool => ((.bool r : V), ([] : List (Nat × Option O)))) (r := (m_impl_within n_ low high)) Tryd.func59 rfl Tryd.ntmps59 rfl ?_
  refine run_seq ?_
  refine run_region (q_assign .n (.c rfl) rfl <|
      Lex.nil) ?_
  refine run_seq ?_
  refine run_region (q_move .n (.t rfl) rfl <|
      q_move .n (.t rfl) rfl <|
      q_int .n (.t rfl) (.t rfl) rfl rfl <|
      q_move .n (.t rfl) rfl <|
      q_move (.t rfl rfl) (.t rfl) rfl <|
      q_move (.t rfl rfl) (.t rfl) rfl <|
      q_int (.t rfl rfl) (.u rfl id) (.u rfl id) rfl rfl <|
      q_and .n (.t rfl) (.u rfl id) rfl <|
      q_assign .n (.t rfl) rfl <|
      Lex.nil) ?_
  exact run_ret [] (.cons (.t rfl rfl) .nil) rfl trivial rfl

/-! ### impl_onlyNameBytes -/
theorem c_impl_onlyNameBytes (s_ : List UInt8) (hp1 : s_.length ≤ 10) : Con Tryd.prog 95 [.str s_] [] (.bool (m_impl_onlyNameBytes s_)) ([]) := by
  refine con_intro (out := fun r : Bool => ((.bool r : V), ([] : List (Nat × Option O)))) (r := (m_impl_onlyNameBytes s_)) Tryd.func95 rfl Tryd.ntmps95 rfl ?_
  refine run_seq ?_
  refine run_region (q_assign .n (.c rfl) rfl <|
      Lex.nil) ?_
  refine run_seq ?_
  refine run_seq ?_
  refine run_region (q_move .n (.t rfl) rfl <|
      q_len .n (.t rfl) rfl rfl st_9 rfl <|
      q_move .n (.c rfl) rfl <|
      Lex.nil) ?_
  refine run_block ?_
  refine run_LOOP (m_impl_onlyNameBytes_b1 s_) _ _ _ rfl (fun (x1 : Int) => 0 ≤ x1 ∧ x1 ≤ (s_.length : Int)) (fun x1 => 0 ≤ x1 ∧ x1 ≤ (s_.length : Int) ∧ (s_.length : Int) ≤ x1) (fun x1 => ((s_.length : Int) - x1 : Int).toNat) (fun x1 => ⟨[(0, some (true, .str s_)), (6, some (true, .int .i64 (s_.length : Int))), (7, some (true, .int .i64 x1))], []⟩) (fun x1 => ⟨[], []⟩) ⟨by omega, by omega⟩ (by omega) (sub_of [] ⟨rfl, rfl, rfl, trivial⟩ trivial rfl) ?_ ?_
  · intro x1 i5
    obtain ⟨e6, e7, e8⟩ := i5
    try dsimp only at *
    refine run_seq ?_
    refine run_region (q_assign .n (.c rfl) rfl <|
        Lex.nil) ?_
    exact run_ret [] (.cons (.t rfl rfl) .nil) rfl trivial rfl
  · intro rec1 k1 hk1 x1 i2
    obtain ⟨e9, e10⟩ := i2
    try dsimp only at *
    refine run_seq ?_
    refine run_region (q_int .n (.t rfl) (.t rfl) rfl rfl <|
        Lex.nil) ?_
    refine run_seq ?_
    refine run_cond (.t rfl) rfl (fun h3 => ?_) (fun h3 => ?_)
    · try simp only [Bool.and_eq_true, Bool.or_eq_true, Bool.not_eq_true', Bool.and_eq_false_iff, Bool.or_eq_false_iff, Bool.not_eq_false', decide_eq_true_eq, decide_eq_false_iff_not, beq_iff_eq, bne_iff_ne, beq_eq_false_iff_ne, bne_eq_false_iff_eq, Bool.true_and, ne_eq, Decidable.not_not, Int.not_lt, Int.not_le, Nat.not_lt, Nat.not_le, strB_nil, strB_nil', strB_nnil, strB_nnil'] at h3
      refine run_skip ?_
      refine run_seq ?_
      refine run_block ?_
      refine run_seq ?_
      refine run_region (q_move .n (.t rfl) rfl <|
          q_assign .n (.t rfl) rfl <|
          Lex.nil) ?_
      refine run_seq ?_
      refine run_region (q_move .n (.t rfl) rfl <|
          q_move .n (.t rfl) rfl <|
          q_strat .n (.t rfl) (.t rfl) st_9 (fun _ => by omega) rfl <|
          q_assign .n (.t rfl) rfl <|
          Lex.nil) ?_
      refine run_seq ?_
      refine run_region (q_move .n (.t rfl) rfl <|
          q_int .n (.t rfl) (.c rfl) rfl rfl <|
          q_move .n (.t rfl) rfl <|
          q_move (.f rfl rfl) (.t rfl) rfl <|
          q_int (.f rfl rfl) (.u rfl id) (.c rfl) rfl rfl <|
          q_or .n (.t rfl) (.u rfl id) rfl <|
          q_move .n (.t rfl) rfl <|
          q_move (.t rfl rfl) (.t rfl) rfl <|
          q_int (.t rfl rfl) (.u rfl id) (.c rfl) rfl rfl <|
          q_move (.t rfl rfl) (.u rfl id) rfl <|
          q_move (.f rfl rfl) (.t rfl) rfl <|
          q_int (.f rfl rfl) (.u rfl id) (.c rfl) rfl rfl <|
          q_or (.t rfl rfl) (.u rfl id) (.u rfl id) rfl <|
          q_and .n (.t rfl) (.u rfl id) rfl <|
          Lex.nil) ?_
      refine run_cond (.t rfl) rfl (fun h4 => ?_) (fun h4 => ?_)
      · try simp only [Bool.and_eq_true, Bool.or_eq_true, Bool.not_eq_true', Bool.and_eq_false_iff, Bool.or_eq_false_iff, Bool.not_eq_false', decide_eq_true_eq, decide_eq_false_iff_not, beq_iff_eq, bne_iff_ne, beq_eq_false_iff_ne, bne_eq_false_iff_eq, Bool.true_and, ne_eq, Decidable.not_not, Int.not_lt, Int.not_le, Nat.not_lt, Nat.not_le, strB_nil, strB_nil', strB_nnil, strB_nnil'] at h4
        refine run_seq ?_
        refine run_region (q_assign .n (.c rfl) rfl <|
            Lex.nil) ?_
        exact run_ret [] (.cons (.t rfl rfl) .nil) rfl trivial rfl
      · try simp only [Bool.and_eq_true, Bool.or_eq_true, Bool.not_eq_true', Bool.and_eq_false_iff, Bool.or_eq_false_iff, Bool.not_eq_false', decide_eq_true_eq, decide_eq_false_iff_not, beq_iff_eq, bne_iff_ne, beq_eq_false_iff_ne, bne_eq_false_iff_eq, Bool.true_and, ne_eq, Decidable.not_not, Int.not_lt, Int.not_le, Nat.not_lt, Nat.not_le, strB_nil, strB_nil', strB_nnil, strB_nnil'] at h4
        refine run_skip ?_
        refine run_endB ?_
        refine run_region (q_add .n (.t rfl) (.c rfl) (fun _ => by omega) rfl <|
            q_move .n (.t rfl) rfl <|
            Lex.nil) ?_
        exact run_again (x1 + 1) ⟨by omega, by omega⟩ (by omega) (sub_of [] ⟨rfl, rfl, rfl, trivial⟩ trivial rfl)
    · try simp only [Bool.and_eq_true, Bool.or_eq_true, Bool.not_eq_true', Bool.and_eq_false_iff, Bool.or_eq_false_iff, Bool.not_eq_false', decide_eq_true_eq, decide_eq_false_iff_not, beq_iff_eq, bne_iff_ne, beq_eq_false_iff_ne, bne_eq_false_iff_eq, Bool.true_and, ne_eq, Decidable.not_not, Int.not_lt, Int.not_le, Nat.not_lt, Nat.not_le, strB_nil, strB_nil', strB_nnil, strB_nnil'] at h3
      refine run_exit rfl ?_
      exact run_cont hk1 x1 ⟨by omega, by omega, by omega⟩ (sub_of [] trivial trivial rfl)

/-! ### impl_IsName -/
theorem c_impl_IsName (s_ : List UInt8) : Con Tryd.prog 79 [.str s_] [] (.bool (m_impl_IsName s_)) ([]) := by
  refine con_intro (out := fun r : Bool => ((.bool r : V), ([] : List (Nat × Option O)))) (r := (m_impl_IsName s_)) Tryd.func79 rfl Tryd.ntmps79 rfl ?_
  refine run_seq ?_
  refine run_region (q_assign .n (.c rfl) rfl <|
      Lex.nil) ?_
  refine run_seq ?_
  refine run_seq ?_
  refine run_region (q_move .n (.t rfl) rfl <|
      q_len .n (.t rfl) rfl rfl st_9 rfl <|
      q_int .n (.t rfl) (.c rfl) rfl rfl <|
      q_move .n (.t rfl) rfl <|
      q_move (.f rfl rfl) (.t rfl) rfl <|
      q_len (.f rfl rfl) (.u rfl id) rfl rfl st_9 rfl <|
      q_int (.f rfl rfl) (.u rfl id) (.c rfl) rfl rfl <|
      q_or .n (.t rfl) (.u rfl id) rfl <|
      q_move .n (.t rfl) rfl <|
      q_move (.f rfl rfl) (.t rfl) rfl <|
      q_strat (.f rfl rfl) (.u rfl id) (.c rfl) st_9 (fun hg => by simp only [Bool.and_eq_true, Bool.or_eq_true, Bool.not_eq_true', Bool.and_eq_false_iff, Bool.or_eq_false_iff, Bool.not_eq_false', decide_eq_true_eq, decide_eq_false_iff_not, beq_iff_eq, bne_iff_ne, beq_eq_false_iff_ne, bne_eq_false_iff_eq, Bool.true_and, ne_eq, Decidable.not_not, Int.not_lt, Int.not_le, Nat.not_lt, Nat.not_le, strB_nil, strB_nil', strB_nnil, strB_nnil'] at hg; omega) rfl <|
      q_int (.f rfl rfl) (.u rfl id) (.c rfl) rfl rfl <|
      q_or .n (.t rfl) (.u rfl id) rfl <|
      q_move .n (.t rfl) rfl <|
      q_move (.f rfl rfl) (.t rfl) rfl <|
      q_strat (.f rfl rfl) (.u rfl id) (.c rfl) st_9 (fun hg => by simp only [Bool.and_eq_true, Bool.or_eq_true, Bool.not_eq_true', Bool.and_eq_false_iff, Bool.or_eq_false_iff, Bool.not_eq_false', decide_eq_true_eq, decide_eq_false_iff_not, beq_iff_eq, bne_iff_ne, beq_eq_false_iff_ne, bne_eq_false_iff_eq, Bool.true_and, ne_eq, Decidable.not_not, Int.not_lt, Int.not_le, Nat.not_lt, Nat.not_le, strB_nil, strB_nil', strB_nnil, strB_nnil'] at hg; omega) rfl <|
      q_int (.f rfl rfl) (.u rfl id) (.c rfl) rfl rfl <|
      q_or .n (.t rfl) (.u rfl id) rfl <|
      Lex.nil) ?_
  refine run_cond (.t rfl) rfl (fun h1 => ?_) (fun h1 => ?_)
  · try simp only [Bool.and_eq_true, Bool.or_eq_true, Bool.not_eq_true', Bool.and_eq_false_iff, Bool.or_eq_false_iff, Bool.not_eq_false', decide_eq_true_eq, decide_eq_false_iff_not, beq_iff_eq, bne_iff_ne, beq_eq_false_iff_ne, bne_eq_false_iff_eq, Bool.true_and, ne_eq, Decidable.not_not, Int.not_lt, Int.not_le, Nat.not_lt, Nat.not_le, strB_nil, strB_nil', strB_nnil, strB_nnil'] at h1
    refine run_seq ?_
    refine run_region (q_assign .n (.c rfl) rfl <|
        Lex.nil) ?_
    exact run_ret [] (.cons (.t rfl rfl) .nil) rfl trivial rfl
  · try simp only [Bool.and_eq_true, Bool.or_eq_true, Bool.not_eq_true', Bool.and_eq_false_iff, Bool.or_eq_false_iff, Bool.not_eq_false', decide_eq_true_eq, decide_eq_false_iff_not, beq_iff_eq, bne_iff_ne, beq_eq_false_iff_ne, bne_eq_false_iff_eq, Bool.true_and, ne_eq, Decidable.not_not, Int.not_lt, Int.not_le, Nat.not_lt, Nat.not_le, strB_nil, strB_nil', strB_nnil, strB_nnil'] at h1
    refine run_skip ?_
    refine run_seq ?_
    refine run_region (q_move .n (.t rfl) rfl <|
        q_call0 (full := false) .n .f en_95 (.cons (.t rfl) .nil) (.cons (.b (.a (.same rfl))) .nil) (fun hg => c_impl_onlyNameBytes s_ (by omega)) rfl (fun h => Bool.noConfusion h) rfl <|
        q_assign .n (.t rfl) rfl <|
        Lex.nil) ?_
    exact run_ret [] (.cons (.t rfl rfl) .nil) rfl trivial rfl

/-! ### impl_Setting_valid -/
theorem c_impl_Setting_valid (x_ : gSetting) : Con Tryd.prog 49 [.st [.str x_.Name, .int .i64 x_.Value]] [] (.bool (m_impl_Setting_valid x_)) ([]) := by
  refine con_intro (out := fun r : Bool => ((.bool r : V), ([] : List (Nat × Option O)))) (r := (m_impl_Setting_valid x_)) Tryd.func49 rfl Tryd.ntmps49 rfl ?_
  refine run_seq ?_
  refine run_region (q_box (l := 200) .n rfl (.t rfl) rfl rfl rfl rfl <|
      q_assign .n (.c rfl) rfl <|
      Lex.nil) ?_
  refine run_seq ?_
  refine run_region (q_fld_ow .n (.t rfl) fo_75_0 rfl <|
      q_ld1_ow .n (.t rfl) rfl (.inr rfl) (fun _ => rfl) rfl ic_9 rfl <|
      q_call0 (full := false) .n .f en_79 (.cons (.t rfl) .nil) (.cons (.b (.a (.same rfl))) .nil) (fun hg => c_impl_IsName x_.Name) rfl (fun h => Bool.noConfusion h) rfl <|
      q_move .n (.t rfl) rfl <|
      q_fld_ow (.t rfl rfl) (.t rfl) fo_75_1 rfl <|
      q_ld1_ow (.t rfl rfl) (.u rfl id) rfl (.inr rfl) (fun _ => rfl) rfl ic_2 rfl <|
      q_call0 (full := false) (.t rfl rfl) .f en_59 (.cons (.u rfl id) (.cons (.c rfl) (.cons (.c rfl) .nil))) (.cons (.b (.a (.same rfl))) (.cons (.b (.a (.same rfl))) (.cons (.b (.a (.same rfl))) .nil))) (fun hg => c_impl_within x_.Value 0 1000) rfl (fun h => Bool.noConfusion h) rfl <|
      q_and .n (.t rfl) (.u rfl id) rfl <|
      q_assign .n (.t rfl) rfl <|
      Lex.nil) ?_
  exact run_ret [] (.cons (.t rfl rfl) .nil) rfl trivial rfl

/-! ### impl_ValidState -/
theorem c_impl_ValidState (list : List gSetting) : Con Tryd.prog 46 [.sl 2 (list.map gSetting.v)] [] (.bool (m_impl_ValidState list)) ([]) := by
  refine con_intro (out := fun r : Bool => ((.bool r : V), ([] : List (Nat × Option O)))) (r := (m_impl_ValidState list)) Tryd.func46 rfl Tryd.ntmps46 rfl ?_
  refine run_fact (t := 0) rfl fun hl => ?_
  have l1 := hl; clear hl; simp only [List.length_map] at l1
  refine run_seq ?_
  refine run_region (q_assign .n (.c rfl) rfl <|
      Lex.nil) ?_
  refine run_seq ?_
  refine run_seq ?_
  refine run_region (q_move .n (.t rfl) rfl <|
      q_len .n (.t rfl) rfl len_map ss_34 rfl <|
      q_int .n (.t rfl) (.c rfl) rfl rfl <|
      Lex.nil) ?_
  refine run_cond (.t rfl) rfl (fun h2 => ?_) (fun h2 => ?_)
  · try simp only [Bool.and_eq_true, Bool.or_eq_true, Bool.not_eq_true', Bool.and_eq_false_iff, Bool.or_eq_false_iff, Bool.not_eq_false', decide_eq_true_eq, decide_eq_false_iff_not, beq_iff_eq, bne_iff_ne, beq_eq_false_iff_ne, bne_eq_false_iff_eq, Bool.true_and, ne_eq, Decidable.not_not, Int.not_lt, Int.not_le, Nat.not_lt, Nat.not_le, strB_nil, strB_nil', strB_nnil, strB_nnil'] at h2
    refine run_seq ?_
    refine run_region (q_assign .n (.c rfl) rfl <|
        Lex.nil) ?_
    exact run_ret [] (.cons (.t rfl rfl) .nil) rfl trivial rfl
  · try simp only [Bool.and_eq_true, Bool.or_eq_true, Bool.not_eq_true', Bool.and_eq_false_iff, Bool.or_eq_false_iff, Bool.not_eq_false', decide_eq_true_eq, decide_eq_false_iff_not, beq_iff_eq, bne_iff_ne, beq_eq_false_iff_ne, bne_eq_false_iff_eq, Bool.true_and, ne_eq, Decidable.not_not, Int.not_lt, Int.not_le, Nat.not_lt, Nat.not_le, strB_nil, strB_nil', strB_nnil, strB_nnil'] at h2
    refine run_skip ?_
    refine run_seq ?_
    refine run_seq ?_
    refine run_region (q_move .n (.t rfl) rfl <|
        q_len .n (.t rfl) rfl len_map ss_34 rfl <|
        q_move .n (.c rfl) rfl <|
        Lex.nil) ?_
    refine run_block ?_
    refine run_LOOP (m_impl_ValidState_b1 list) _ _ _ rfl (fun (x1 : Int) => 0 ≤ x1 ∧ x1 ≤ (list.length : Int)) (fun x1 => 0 ≤ x1 ∧ x1 ≤ (list.length : Int) ∧ (list.length : Int) ≤ x1) (fun x1 => ((list.length : Int) - x1 : Int).toNat) (fun x1 => ⟨[(0, some (true, .sl 2 (list.map gSetting.v))), (8, some (true, .sl 2 (list.map gSetting.v))), (9, some (true, .int .i64 (list.length : Int))), (10, some (true, .int .i64 x1))], []⟩) (fun x1 => ⟨[], []⟩) ⟨by omega, by omega⟩ (by omega) (sub_of [] ⟨rfl, rfl, rfl, rfl, trivial⟩ trivial rfl) ?_ ?_
    · intro x1 i7
      obtain ⟨e8, e9, e10⟩ := i7
      try dsimp only at *
      refine run_seq ?_
      refine run_region (q_assign .n (.c rfl) rfl <|
          Lex.nil) ?_
      exact run_ret [] (.cons (.t rfl rfl) .nil) rfl trivial rfl
    · intro rec1 k1 hk3 x1 i4
      obtain ⟨e11, e12⟩ := i4
      try dsimp only at *
      refine run_seq ?_
      refine run_region (q_int .n (.t rfl) (.t rfl) rfl rfl <|
          Lex.nil) ?_
      refine run_seq ?_
      refine run_cond (.t rfl) rfl (fun h5 => ?_) (fun h5 => ?_)
      · try simp only [Bool.and_eq_true, Bool.or_eq_true, Bool.not_eq_true', Bool.and_eq_false_iff, Bool.or_eq_false_iff, Bool.not_eq_false', decide_eq_true_eq, decide_eq_false_iff_not, beq_iff_eq, bne_iff_ne, beq_eq_false_iff_ne, bne_eq_false_iff_eq, Bool.true_and, ne_eq, Decidable.not_not, Int.not_lt, Int.not_le, Nat.not_lt, Nat.not_le, strB_nil, strB_nil', strB_nnil, strB_nnil'] at h5
        refine run_skip ?_
        refine run_seq ?_
        refine run_block ?_
        refine run_seq ?_
        refine run_region (q_move .n (.t rfl) rfl <|
            q_idx_rm .n (.t rfl) (.t rfl) sl_34 (fun _ => by omega) rfl <|
            q_ldN_ro .n (.t rfl) ag_75 rfl rfl rfl <|
            q_alloc (l := 200) .n rfl zv_75 rfl rfl <|
            q_assign .n (.t rfl) rfl <|
            q_st_boxm [.str (at' list x1).Name, .int .i64 (at' list x1).Value] .n rfl (.t rfl) (.t rfl) rfl ts_75 rfl rfl <|
            Lex.nil) ?_
        refine run_seq ?_
        refine run_draw fmo (q_ldN_ow .n (.t rfl) rfl (.inr rfl) ag_75 (fun _ => rfl) rfl rfl <|
            q_call0 (full := false) .n .f en_49 (.cons (.t rfl) .nil) (.cons (.sts rfl) .nil) (fun hg => c_impl_Setting_valid (at' list x1)) rfl (fun h => Bool.noConfusion h) rfl <|
            q_not .n (.t rfl) rfl <|
            q_move .n (.t rfl) rfl <|
            q_move (.f rfl rfl) (.t rfl) rfl <|
            q_int (.f rfl rfl) (.u rfl id) (.c rfl) rfl rfl <|
            q_move (.f rfl rfl) (.u rfl id) rfl <|
            q_fld_ow (.t rfl rfl) (.t rfl) fo_75_0 rfl <|
            q_ld1_ow (.t rfl rfl) (.u rfl id) rfl (.inr rfl) (fun _ => rfl) rfl ic_9 rfl <|
            q_move (.t rfl rfl) (.t rfl) rfl <|
            q_move (.t rfl rfl) (.t rfl) rfl <|
            q_sub (.t rfl rfl) (.u rfl id) (.c rfl) (fun hg => by simp only [Bool.and_eq_true, Bool.or_eq_true, Bool.not_eq_true', Bool.and_eq_false_iff, Bool.or_eq_false_iff, Bool.not_eq_false', decide_eq_true_eq, decide_eq_false_iff_not, beq_iff_eq, bne_iff_ne, beq_eq_false_iff_ne, bne_eq_false_iff_eq, Bool.true_and, ne_eq, Decidable.not_not, Int.not_lt, Int.not_le, Nat.not_lt, Nat.not_le, strB_nil, strB_nil', strB_nnil, strB_nnil'] at hg; omega) rfl <|
            q_idx_rm (.t rfl rfl) (.u rfl id) (.u rfl id) sl_34 (fun hg => by simp only [Bool.and_eq_true, Bool.or_eq_true, Bool.not_eq_true', Bool.and_eq_false_iff, Bool.or_eq_false_iff, Bool.not_eq_false', decide_eq_true_eq, decide_eq_false_iff_not, beq_iff_eq, bne_iff_ne, beq_eq_false_iff_ne, bne_eq_false_iff_eq, Bool.true_and, ne_eq, Decidable.not_not, Int.not_lt, Int.not_le, Nat.not_lt, Nat.not_le, strB_nil, strB_nil', strB_nnil, strB_nnil'] at hg; omega) rfl <|
            q_fld_ro (.t rfl rfl) (.u rfl id) fo_75_0 rfl <|
            q_ld1_ro (.t rfl rfl) (.u rfl id) rfl ic_9 rfl <|
            q_strcmp (.t rfl rfl) (.u rfl id) (.u rfl id) rfl rfl <|
            q_and (.f rfl rfl) (.u rfl id) (.u rfl id) rfl <|
            q_or .n (.t rfl) (.u rfl id) rfl <|
            Lex.nil) (by kernel_rfl) ?_
        refine run_cond (.t rfl) rfl (fun h6 => ?_) (fun h6 => ?_)
        · try simp only [Bool.and_eq_true, Bool.or_eq_true, Bool.not_eq_true', Bool.and_eq_false_iff, Bool.or_eq_false_iff, Bool.not_eq_false', decide_eq_true_eq, decide_eq_false_iff_not, beq_iff_eq, bne_iff_ne, beq_eq_false_iff_ne, bne_eq_false_iff_eq, Bool.true_and, ne_eq, Decidable.not_not, Int.not_lt, Int.not_le, Nat.not_lt, Nat.not_le, strB_nil, strB_nil', strB_nnil, strB_nnil'] at h6
          refine run_seq ?_
          refine run_region (q_assign .n (.c rfl) rfl <|
              Lex.nil) ?_
          exact run_ret [] (.cons (.t rfl rfl) .nil) rfl trivial rfl
        · try simp only [Bool.and_eq_true, Bool.or_eq_true, Bool.not_eq_true', Bool.and_eq_false_iff, Bool.or_eq_false_iff, Bool.not_eq_false', decide_eq_true_eq, decide_eq_false_iff_not, beq_iff_eq, bne_iff_ne, beq_eq_false_iff_ne, bne_eq_false_iff_eq, Bool.true_and, ne_eq, Decidable.not_not, Int.not_lt, Int.not_le, Nat.not_lt, Nat.not_le, strB_nil, strB_nil', strB_nnil, strB_nnil'] at h6
          refine run_skip ?_
          refine run_endB ?_
          refine run_region (q_add .n (.t rfl) (.c rfl) (fun _ => by omega) rfl <|
              q_move .n (.t rfl) rfl <|
              Lex.nil) ?_
          exact run_again (x1 + 1) ⟨by omega, by omega⟩ (by omega) (sub_of [] ⟨rfl, rfl, rfl, rfl, trivial⟩ trivial rfl)
      · try simp only [Bool.and_eq_true, Bool.or_eq_true, Bool.not_eq_true', Bool.and_eq_false_iff, Bool.or_eq_false_iff, Bool.not_eq_false', decide_eq_true_eq, decide_eq_false_iff_not, beq_iff_eq, bne_iff_ne, beq_eq_false_iff_ne, bne_eq_false_iff_eq, Bool.true_and, ne_eq, Decidable.not_not, Int.not_lt, Int.not_le, Nat.not_lt, Nat.not_le, strB_nil, strB_nil', strB_nnil, strB_nnil'] at h5
        refine run_exit rfl ?_
        exact run_cont hk3 x1 ⟨by omega, by omega, by omega⟩ (sub_of [] trivial trivial rfl)

/-! ### impl_bytesWithin -/
theorem c_impl_bytesWithin (s_ : List UInt8) (low : Int) (high : Int) (hp1 : s_.length ≤ 1048576) : Con Tryd.prog 84 [.str s_, .int .u8 low, .int .u8 high] [] (.bool (m_impl_bytesWithin s_ low high)) ([]) := by
  refine con_intro (out := fun r : Bool => ((.bool r : V), ([] : List (Nat × Option O)))) (r := (m_impl_bytesWithin s_ low high)) Tryd.func84 rfl Tryd.ntmps84 rfl ?_
  refine run_seq ?_
  refine run_region (q_assign .n (.c rfl) rfl <|
      Lex.nil) ?_
  refine run_seq ?_
  refine run_seq ?_
  refine run_region (q_move .n (.t rfl) rfl <|
      q_len .n (.t rfl) rfl rfl st_9 rfl <|
      q_move .n (.c rfl) rfl <|
      Lex.nil) ?_
  refine run_block ?_
  refine run_LOOP (m_impl_bytesWithin_b1 s_ low high) _ _ _ rfl (fun (x1 : Int) => 0 ≤ x1 ∧ x1 ≤ (s_.length : Int)) (fun x1 => 0 ≤ x1 ∧ x1 ≤ (s_.length : Int) ∧ (s_.length : Int) ≤ x1) (fun x1 => ((s_.length : Int) - x1 : Int).toNat) (fun x1 => ⟨[(0, some (true, .str s_)), (1, some (true, .int .u8 low)), (2, some (true, .int .u8 high)), (9, some (true, .int .i64 (s_.length : Int))), (10, some (true, .int .i64 x1))], []⟩) (fun x1 => ⟨[], []⟩) ⟨by omega, by omega⟩ (by omega) (sub_of [] ⟨rfl, rfl, rfl, rfl, rfl, trivial⟩ trivial rfl) ?_ ?_
  · intro x1 i5
    obtain ⟨e6, e7, e8⟩ := i5
    try dsimp only at *
    refine run_seq ?_
    refine run_region (q_assign .n (.c rfl) rfl <|
        Lex.nil) ?_
    exact run_ret [] (.cons (.t rfl rfl) .nil) rfl trivial rfl
  · intro rec1 k1 hk1 x1 i2
    obtain ⟨e9, e10⟩ := i2
    try dsimp only at *
    refine run_seq ?_
    refine run_region (q_int .n (.t rfl) (.t rfl) rfl rfl <|
        Lex.nil) ?_
    refine run_seq ?_
    refine run_cond (.t rfl) rfl (fun h3 => ?_) (fun h3 => ?_)
    · try simp only [Bool.and_eq_true, Bool.or_eq_true, Bool.not_eq_true', Bool.and_eq_false_iff, Bool.or_eq_false_iff, Bool.not_eq_false', decide_eq_true_eq, decide_eq_false_iff_not, beq_iff_eq, bne_iff_ne, beq_eq_false_iff_ne, bne_eq_false_iff_eq, Bool.true_and, ne_eq, Decidable.not_not, Int.not_lt, Int.not_le, Nat.not_lt, Nat.not_le, strB_nil, strB_nil', strB_nnil, strB_nnil'] at h3
      refine run_skip ?_
      refine run_seq ?_
      refine run_block ?_
      refine run_seq ?_
      refine run_region (q_move .n (.t rfl) rfl <|
          q_assign .n (.t rfl) rfl <|
          Lex.nil) ?_
      refine run_seq ?_
      refine run_region (q_move .n (.t rfl) rfl <|
          q_move .n (.t rfl) rfl <|
          q_strat .n (.t rfl) (.t rfl) st_9 (fun _ => by omega) rfl <|
          q_move .n (.t rfl) rfl <|
          q_int .n (.t rfl) (.t rfl) rfl rfl <|
          q_move .n (.t rfl) rfl <|
          q_move (.f rfl rfl) (.t rfl) rfl <|
          q_move (.f rfl rfl) (.t rfl) rfl <|
          q_strat (.f rfl rfl) (.u rfl id) (.u rfl id) st_9 (fun hg => by simp only [Bool.and_eq_true, Bool.or_eq_true, Bool.not_eq_true', Bool.and_eq_false_iff, Bool.or_eq_false_iff, Bool.not_eq_false', decide_eq_true_eq, decide_eq_false_iff_not, beq_iff_eq, bne_iff_ne, beq_eq_false_iff_ne, bne_eq_false_iff_eq, Bool.true_and, ne_eq, Decidable.not_not, Int.not_lt, Int.not_le, Nat.not_lt, Nat.not_le, strB_nil, strB_nil', strB_nnil, strB_nnil'] at hg; omega) rfl <|
          q_move (.f rfl rfl) (.t rfl) rfl <|
          q_int (.f rfl rfl) (.u rfl id) (.u rfl id) rfl rfl <|
          q_or .n (.t rfl) (.u rfl id) rfl <|
          Lex.nil) ?_
      refine run_cond (.t rfl) rfl (fun h4 => ?_) (fun h4 => ?_)
      · try simp only [Bool.and_eq_true, Bool.or_eq_true, Bool.not_eq_true', Bool.and_eq_false_iff, Bool.or_eq_false_iff, Bool.not_eq_false', decide_eq_true_eq, decide_eq_false_iff_not, beq_iff_eq, bne_iff_ne, beq_eq_false_iff_ne, bne_eq_false_iff_eq, Bool.true_and, ne_eq, Decidable.not_not, Int.not_lt, Int.not_le, Nat.not_lt, Nat.not_le, strB_nil, strB_nil', strB_nnil, strB_nnil'] at h4
        refine run_seq ?_
        refine run_region (q_assign .n (.c rfl) rfl <|
            Lex.nil) ?_
        exact run_ret [] (.cons (.t rfl rfl) .nil) rfl trivial rfl
      · try simp only [Bool.and_eq_true, Bool.or_eq_true, Bool.not_eq_true', Bool.and_eq_false_iff, Bool.or_eq_false_iff, Bool.not_eq_false', decide_eq_true_eq, decide_eq_false_iff_not, beq_iff_eq, bne_iff_ne, beq_eq_false_iff_ne, bne_eq_false_iff_eq, Bool.true_and, ne_eq, Decidable.not_not, Int.not_lt, Int.not_le, Nat.not_lt, Nat.not_le, strB_nil, strB_nil', strB_nnil, strB_nnil'] at h4
        refine run_skip ?_
        refine run_endB ?_
        refine run_region (q_add .n (.t rfl) (.c rfl) (fun _ => by omega) rfl <|
            q_move .n (.t rfl) rfl <|
            Lex.nil) ?_
        exact run_again (x1 + 1) ⟨by omega, by omega⟩ (by omega) (sub_of [] ⟨rfl, rfl, rfl, rfl, rfl, trivial⟩ trivial rfl)
    · try simp only [Bool.and_eq_true, Bool.or_eq_true, Bool.not_eq_true', Bool.and_eq_false_iff, Bool.or_eq_false_iff, Bool.not_eq_false', decide_eq_true_eq, decide_eq_false_iff_not, beq_iff_eq, bne_iff_ne, beq_eq_false_iff_ne, bne_eq_false_iff_eq, Bool.true_and, ne_eq, Decidable.not_not, Int.not_lt, Int.not_le, Nat.not_lt, Nat.not_le, strB_nil, strB_nil', strB_nnil, strB_nnil'] at h3
      refine run_exit rfl ?_
      exact run_cont hk1 x1 ⟨by omega, by omega, by omega⟩ (sub_of [] trivial trivial rfl)

/-! ### impl_memoValid -/
theorem c_impl_memoValid (memo : List UInt8) : Con Tryd.prog 58 [.str memo] [] (.bool (m_impl_memoValid memo)) ([]) := by
  refine con_intro (out := fun r : Bool => ((.bool r : V), ([] : List (Nat × Option O)))) (r := (m_impl_memoValid memo)) Tryd.func58 rfl Tryd.ntmps58 rfl ?_
  refine run_seq ?_
  refine run_region (q_assign .n (.c rfl) rfl <|
      Lex.nil) ?_
  refine run_seq ?_
  refine run_region (q_move .n (.t rfl) rfl <|
      q_len .n (.t rfl) rfl rfl st_9 rfl <|
      q_int .n (.t rfl) (.c rfl) rfl rfl <|
      q_move .n (.t rfl) rfl <|
      q_move (.t rfl rfl) (.t rfl) rfl <|
      q_call0 (full := false) (.t rfl rfl) .f en_84 (.cons (.u rfl id) (.cons (.c rfl) (.cons (.c rfl) .nil))) (.cons (.b (.a (.same rfl))) (.cons (.b (.a (.same rfl))) (.cons (.b (.a (.same rfl))) .nil))) (fun hg => c_impl_bytesWithin memo 32 126 (by simp only [Bool.and_eq_true, Bool.or_eq_true, Bool.not_eq_true', Bool.and_eq_false_iff, Bool.or_eq_false_iff, Bool.not_eq_false', decide_eq_true_eq, decide_eq_false_iff_not, beq_iff_eq, bne_iff_ne, beq_eq_false_iff_ne, bne_eq_false_iff_eq, Bool.true_and, ne_eq, Decidable.not_not, Int.not_lt, Int.not_le, Nat.not_lt, Nat.not_le, strB_nil, strB_nil', strB_nnil, strB_nnil'] at hg; omega)) rfl (fun h => Bool.noConfusion h) rfl <|
      q_and .n (.t rfl) (.u rfl id) rfl <|
      q_assign .n (.t rfl) rfl <|
      Lex.nil) ?_
  exact run_ret [] (.cons (.t rfl rfl) .nil) rfl trivial rfl

/-! ### impl_ValidHistory -/
theorem c_impl_ValidHistory (list : List gVersion) : Con Tryd.prog 57 [.sl 4 (list.map gVersion.v)] [] (.bool (m_impl_ValidHistory list)) ([]) := by
  refine con_intro (out := fun r : Bool => ((.bool r : V), ([] : List (Nat × Option O)))) (r := (m_impl_ValidHistory list)) Tryd.func57 rfl Tryd.ntmps57 rfl ?_
  refine run_fact (t := 0) rfl fun hl => ?_
  have l1 := hl; clear hl; simp only [List.length_map] at l1
  refine run_seq ?_
  refine run_region (q_assign .n (.c rfl) rfl <|
      Lex.nil) ?_
  refine run_seq ?_
  refine run_seq ?_
  refine run_region (q_move .n (.t rfl) rfl <|
      q_len .n (.t rfl) rfl len_map ss_24 rfl <|
      q_int .n (.t rfl) (.c rfl) rfl rfl <|
      Lex.nil) ?_
  refine run_cond (.t rfl) rfl (fun h2 => ?_) (fun h2 => ?_)
  · try simp only [Bool.and_eq_true, Bool.or_eq_true, Bool.not_eq_true', Bool.and_eq_false_iff, Bool.or_eq_false_iff, Bool.not_eq_false', decide_eq_true_eq, decide_eq_false_iff_not, beq_iff_eq, bne_iff_ne, beq_eq_false_iff_ne, bne_eq_false_iff_eq, Bool.true_and, ne_eq, Decidable.not_not, Int.not_lt, Int.not_le, Nat.not_lt, Nat.not_le, strB_nil, strB_nil', strB_nnil, strB_nnil'] at h2
    refine run_seq ?_
    refine run_region (q_assign .n (.c rfl) rfl <|
        Lex.nil) ?_
    exact run_ret [] (.cons (.t rfl rfl) .nil) rfl trivial rfl
  · try simp only [Bool.and_eq_true, Bool.or_eq_true, Bool.not_eq_true', Bool.and_eq_false_iff, Bool.or_eq_false_iff, Bool.not_eq_false', decide_eq_true_eq, decide_eq_false_iff_not, beq_iff_eq, bne_iff_ne, beq_eq_false_iff_ne, bne_eq_false_iff_eq, Bool.true_and, ne_eq, Decidable.not_not, Int.not_lt, Int.not_le, Nat.not_lt, Nat.not_le, strB_nil, strB_nil', strB_nnil, strB_nnil'] at h2
    refine run_skip ?_
    refine run_seq ?_
    refine run_seq ?_
    refine run_region (q_move .n (.t rfl) rfl <|
        q_len .n (.t rfl) rfl len_map ss_24 rfl <|
        q_move .n (.c rfl) rfl <|
        Lex.nil) ?_
    refine run_block ?_
    refine run_LOOP (m_impl_ValidHistory_b1 list) _ _ _ rfl (fun (x1 : Int) => 0 ≤ x1 ∧ x1 ≤ (list.length : Int)) (fun x1 => 0 ≤ x1 ∧ x1 ≤ (list.length : Int) ∧ (list.length : Int) ≤ x1) (fun x1 => ((list.length : Int) - x1 : Int).toNat) (fun x1 => ⟨[(8, some (true, .sl 4 (list.map gVersion.v))), (9, some (true, .int .i64 (list.length : Int))), (10, some (true, .int .i64 x1))], []⟩) (fun x1 => ⟨[], []⟩) ⟨by omega, by omega⟩ (by omega) (sub_of [] ⟨rfl, rfl, rfl, trivial⟩ trivial rfl) ?_ ?_
    · intro x1 i7
      obtain ⟨e8, e9, e10⟩ := i7
      try dsimp only at *
      refine run_seq ?_
      refine run_region (q_assign .n (.c rfl) rfl <|
          Lex.nil) ?_
      exact run_ret [] (.cons (.t rfl rfl) .nil) rfl trivial rfl
    · intro rec1 k1 hk3 x1 i4
      obtain ⟨e11, e12⟩ := i4
      try dsimp only at *
      refine run_seq ?_
      refine run_region (q_int .n (.t rfl) (.t rfl) rfl rfl <|
          Lex.nil) ?_
      refine run_seq ?_
      refine run_cond (.t rfl) rfl (fun h5 => ?_) (fun h5 => ?_)
      · try simp only [Bool.and_eq_true, Bool.or_eq_true, Bool.not_eq_true', Bool.and_eq_false_iff, Bool.or_eq_false_iff, Bool.not_eq_false', decide_eq_true_eq, decide_eq_false_iff_not, beq_iff_eq, bne_iff_ne, beq_eq_false_iff_ne, bne_eq_false_iff_eq, Bool.true_and, ne_eq, Decidable.not_not, Int.not_lt, Int.not_le, Nat.not_lt, Nat.not_le, strB_nil, strB_nil', strB_nnil, strB_nnil'] at h5
        refine run_skip ?_
        refine run_seq ?_
        refine run_block ?_
        refine run_seq ?_
        refine run_region (q_move .n (.t rfl) rfl <|
            q_idx_rm .n (.t rfl) (.t rfl) sl_24 (fun _ => by omega) rfl <|
            q_ldN_ro .n (.t rfl) ag_54 rfl rfl rfl <|
            q_alloc (l := 200) .n rfl zv_54 rfl rfl <|
            q_assign .n (.t rfl) rfl <|
            q_st_boxm [.int .i64 (at' list x1).Number, .int .i64 (at' list x1).Parent, .str (at' list x1).Memo, .sl 2 ((at' list x1).State.map gSetting.v)] .n rfl (.t rfl) (.t rfl) rfl ts_54 rfl rfl <|
            Lex.nil) ?_
        refine run_seq ?_
        refine run_region (q_fld_ow .n (.t rfl) fo_54_0 rfl <|
            q_ld1_ow .n (.t rfl) rfl (.inr rfl) (fun _ => rfl) rfl ic_2 rfl <|
            q_move .n (.t rfl) rfl <|
            q_add .n (.t rfl) (.c rfl) (fun _ => by omega) rfl <|
            q_int .n (.t rfl) (.t rfl) rfl rfl <|
            q_move .n (.t rfl) rfl <|
            q_fld_ow (.f rfl rfl) (.t rfl) fo_54_1 rfl <|
            q_ld1_ow (.f rfl rfl) (.u rfl id) rfl (.inr rfl) (fun _ => rfl) rfl ic_2 rfl <|
            q_move (.f rfl rfl) (.t rfl) rfl <|
            q_call0 (full := false) (.f rfl rfl) .f en_59 (.cons (.u rfl id) (.cons (.c rfl) (.cons (.u rfl id) .nil))) (.cons (.b (.a (.same rfl))) (.cons (.b (.a (.same rfl))) (.cons (.b (.a (.same rfl))) .nil))) (fun hg => c_impl_within (at' list x1).Parent 0 x1) rfl (fun h => Bool.noConfusion h) rfl <|
            q_not (.f rfl rfl) (.u rfl id) rfl <|
            q_or .n (.t rfl) (.u rfl id) rfl <|
            q_move .n (.t rfl) rfl <|
            q_fld_ow (.f rfl rfl) (.t rfl) fo_54_2 rfl <|
            q_ld1_ow (.f rfl rfl) (.u rfl id) rfl (.inr rfl) (fun _ => rfl) rfl ic_9 rfl <|
            q_call0 (full := false) (.f rfl rfl) .f en_58 (.cons (.u rfl id) .nil) (.cons (.b (.a (.same rfl))) .nil) (fun hg => c_impl_memoValid (at' list x1).Memo) rfl (fun h => Bool.noConfusion h) rfl <|
            q_not (.f rfl rfl) (.u rfl id) rfl <|
            q_or .n (.t rfl) (.u rfl id) rfl <|
            q_move .n (.t rfl) rfl <|
            q_fld_ow (.f rfl rfl) (.t rfl) fo_54_3 rfl <|
            q_ld1_ow (.f rfl rfl) (.u rfl id) rfl (.inr rfl) (fun _ => rfl) rfl ic_34 rfl <|
            q_call0 (full := false) (.f rfl rfl) .f en_46 (.cons (.u rfl id) .nil) (.cons (.b (.a (.same rfl))) .nil) (fun hg => c_impl_ValidState (at' list x1).State) rfl (fun h => Bool.noConfusion h) rfl <|
            q_not (.f rfl rfl) (.u rfl id) rfl <|
            q_or .n (.t rfl) (.u rfl id) rfl <|
            Lex.nil) ?_
        refine run_cond (.t rfl) rfl (fun h6 => ?_) (fun h6 => ?_)
        · try simp only [Bool.and_eq_true, Bool.or_eq_true, Bool.not_eq_true', Bool.and_eq_false_iff, Bool.or_eq_false_iff, Bool.not_eq_false', decide_eq_true_eq, decide_eq_false_iff_not, beq_iff_eq, bne_iff_ne, beq_eq_false_iff_ne, bne_eq_false_iff_eq, Bool.true_and, ne_eq, Decidable.not_not, Int.not_lt, Int.not_le, Nat.not_lt, Nat.not_le, strB_nil, strB_nil', strB_nnil, strB_nnil'] at h6
          try with_reducible have hf0h6 := within_imp h6
          try with_reducible have hf1h6 := within_imp h6.1
          try with_reducible have hf2h6 := within_imp h6.2
          try with_reducible have hf3h6 := within_imp h6.1.1
          try with_reducible have hf4h6 := within_imp h6.1.2
          try with_reducible have hf5h6 := within_imp h6.2.1
          try with_reducible have hf6h6 := within_imp h6.2.2
          try with_reducible have hf7h6 := within_imp h6.1.1.1
          try with_reducible have hf8h6 := within_imp h6.1.1.2
          try with_reducible have hf9h6 := state_l24I h6
          try with_reducible have hf10h6 := state_l24I h6.1
          try with_reducible have hf11h6 := state_l24I h6.2
          try with_reducible have hf12h6 := state_l24I h6.1.1
          try with_reducible have hf13h6 := state_l24I h6.1.2
          try with_reducible have hf14h6 := state_l24I h6.2.1
          try with_reducible have hf15h6 := state_l24I h6.2.2
          try with_reducible have hf16h6 := state_l24I h6.1.1.1
          try with_reducible have hf17h6 := state_l24I h6.1.1.2
          try with_reducible have hf18h6 := state_inI h6
          try with_reducible have hf19h6 := state_inI h6.1
          try with_reducible have hf20h6 := state_inI h6.2
          try with_reducible have hf21h6 := state_inI h6.1.1
          try with_reducible have hf22h6 := state_inI h6.1.2
          try with_reducible have hf23h6 := state_inI h6.2.1
          try with_reducible have hf24h6 := state_inI h6.2.2
          try with_reducible have hf25h6 := state_inI h6.1.1.1
          try with_reducible have hf26h6 := state_inI h6.1.1.2
          try with_reducible have hf27h6 := memo_lenI h6
          try with_reducible have hf28h6 := memo_lenI h6.1
          try with_reducible have hf29h6 := memo_lenI h6.2
          try with_reducible have hf30h6 := memo_lenI h6.1.1
          try with_reducible have hf31h6 := memo_lenI h6.1.2
          try with_reducible have hf32h6 := memo_lenI h6.2.1
          try with_reducible have hf33h6 := memo_lenI h6.2.2
          try with_reducible have hf34h6 := memo_lenI h6.1.1.1
          try with_reducible have hf35h6 := memo_lenI h6.1.1.2
          refine run_seq ?_
          refine run_region (q_assign .n (.c rfl) rfl <|
              Lex.nil) ?_
          exact run_ret [] (.cons (.t rfl rfl) .nil) rfl trivial rfl
        · try simp only [Bool.and_eq_true, Bool.or_eq_true, Bool.not_eq_true', Bool.and_eq_false_iff, Bool.or_eq_false_iff, Bool.not_eq_false', decide_eq_true_eq, decide_eq_false_iff_not, beq_iff_eq, bne_iff_ne, beq_eq_false_iff_ne, bne_eq_false_iff_eq, Bool.true_and, ne_eq, Decidable.not_not, Int.not_lt, Int.not_le, Nat.not_lt, Nat.not_le, strB_nil, strB_nil', strB_nnil, strB_nnil'] at h6
          try with_reducible have hf0h6 := within_imp h6
          try with_reducible have hf1h6 := within_imp h6.1
          try with_reducible have hf2h6 := within_imp h6.2
          try with_reducible have hf3h6 := within_imp h6.1.1
          try with_reducible have hf4h6 := within_imp h6.1.2
          try with_reducible have hf5h6 := within_imp h6.2.1
          try with_reducible have hf6h6 := within_imp h6.2.2
          try with_reducible have hf7h6 := within_imp h6.1.1.1
          try with_reducible have hf8h6 := within_imp h6.1.1.2
          try with_reducible have hf9h6 := state_l24I h6
          try with_reducible have hf10h6 := state_l24I h6.1
          try with_reducible have hf11h6 := state_l24I h6.2
          try with_reducible have hf12h6 := state_l24I h6.1.1
          try with_reducible have hf13h6 := state_l24I h6.1.2
          try with_reducible have hf14h6 := state_l24I h6.2.1
          try with_reducible have hf15h6 := state_l24I h6.2.2
          try with_reducible have hf16h6 := state_l24I h6.1.1.1
          try with_reducible have hf17h6 := state_l24I h6.1.1.2
          try with_reducible have hf18h6 := state_inI h6
          try with_reducible have hf19h6 := state_inI h6.1
          try with_reducible have hf20h6 := state_inI h6.2
          try with_reducible have hf21h6 := state_inI h6.1.1
          try with_reducible have hf22h6 := state_inI h6.1.2
          try with_reducible have hf23h6 := state_inI h6.2.1
          try with_reducible have hf24h6 := state_inI h6.2.2
          try with_reducible have hf25h6 := state_inI h6.1.1.1
          try with_reducible have hf26h6 := state_inI h6.1.1.2
          try with_reducible have hf27h6 := memo_lenI h6
          try with_reducible have hf28h6 := memo_lenI h6.1
          try with_reducible have hf29h6 := memo_lenI h6.2
          try with_reducible have hf30h6 := memo_lenI h6.1.1
          try with_reducible have hf31h6 := memo_lenI h6.1.2
          try with_reducible have hf32h6 := memo_lenI h6.2.1
          try with_reducible have hf33h6 := memo_lenI h6.2.2
          try with_reducible have hf34h6 := memo_lenI h6.1.1.1
          try with_reducible have hf35h6 := memo_lenI h6.1.1.2
          refine run_skip ?_
          refine run_endB ?_
          refine run_region (q_add .n (.t rfl) (.c rfl) (fun _ => by omega) rfl <|
              q_move .n (.t rfl) rfl <|
              Lex.nil) ?_
          exact run_again (x1 + 1) ⟨by omega, by omega⟩ (by omega) (sub_of [] ⟨rfl, rfl, rfl, trivial⟩ trivial rfl)
      · try simp only [Bool.and_eq_true, Bool.or_eq_true, Bool.not_eq_true', Bool.and_eq_false_iff, Bool.or_eq_false_iff, Bool.not_eq_false', decide_eq_true_eq, decide_eq_false_iff_not, beq_iff_eq, bne_iff_ne, beq_eq_false_iff_ne, bne_eq_false_iff_eq, Bool.true_and, ne_eq, Decidable.not_not, Int.not_lt, Int.not_le, Nat.not_lt, Nat.not_le, strB_nil, strB_nil', strB_nnil, strB_nnil'] at h5
        refine run_exit rfl ?_
        exact run_cont hk3 x1 ⟨by omega, by omega, by omega⟩ (sub_of [] trivial trivial rfl)

/-! ### slices_IndexFunc_int64 -/
theorem c_slices_IndexFunc_int64 (s_ : List Int) (f : Int → Bool) (F_f : FuncId) (C_f : List V) (he_f : entB Tryd.prog F_f = true) (hr_f : C_f.all V.ro = true) (hc_f : ∀ (a0 : Int), Con Tryd.prog F_f ([.int .i64 a0] ++ C_f) [] (.bool (f a0)) []) : Con Tryd.prog 100 [.sl 1 (s_.map (V.int .i64)), .clo F_f C_f] [] (.int .i64 (m_slices_IndexFunc_int64 s_ f)) ([]) := by
  refine con_intro (out := fun r : Int => ((.int .i64 r : V), ([] : List (Nat × Option O)))) (r := (m_slices_IndexFunc_int64 s_ f)) Tryd.func100 rfl Tryd.ntmps100 rfl ?_
  refine run_fact (t := 0) rfl fun hl => ?_
  have l1 := hl; clear hl; simp only [List.length_map] at l1
  refine run_seq ?_
  refine run_region (q_assign .n (.c rfl) rfl <|
      Lex.nil) ?_
  refine run_seq ?_
  refine run_seq ?_
  refine run_region (q_move .n (.t rfl) rfl <|
      q_len .n (.t rfl) rfl len_map ss_45 rfl <|
      q_move .n (.c rfl) rfl <|
      Lex.nil) ?_
  refine run_block ?_
  refine run_LOOP (m_slices_IndexFunc_int64_b1 s_ f) _ _ _ rfl (fun (x1 : Int) => 0 ≤ x1 ∧ x1 ≤ (s_.length : Int)) (fun x1 => 0 ≤ x1 ∧ x1 ≤ (s_.length : Int) ∧ (s_.length : Int) ≤ x1) (fun x1 => ((s_.length : Int) - x1 : Int).toNat) (fun x1 => ⟨[(0, some (true, .sl 1 (s_.map (V.int .i64)))), (1, some (true, .clo F_f C_f)), (7, some (true, .int .i64 (s_.length : Int))), (8, some (true, .int .i64 x1))], []⟩) (fun x1 => ⟨[], []⟩) ⟨by omega, by omega⟩ (by omega) (sub_of [] ⟨rfl, clo_ren hr_f rfl, rfl, rfl, trivial⟩ trivial rfl) ?_ ?_
  · intro x1 i6
    obtain ⟨e7, e8, e9⟩ := i6
    try dsimp only at *
    refine run_seq ?_
    refine run_region (q_assign .n (.c rfl) rfl <|
        Lex.nil) ?_
    exact run_ret [] (.cons (.t rfl rfl) .nil) rfl trivial rfl
  · intro rec1 k1 hk2 x1 i3
    obtain ⟨e10, e11⟩ := i3
    try dsimp only at *
    refine run_seq ?_
    refine run_region (q_int .n (.t rfl) (.t rfl) rfl rfl <|
        Lex.nil) ?_
    refine run_seq ?_
    refine run_cond (.t rfl) rfl (fun h4 => ?_) (fun h4 => ?_)
    · try simp only [Bool.and_eq_true, Bool.or_eq_true, Bool.not_eq_true', Bool.and_eq_false_iff, Bool.or_eq_false_iff, Bool.not_eq_false', decide_eq_true_eq, decide_eq_false_iff_not, beq_iff_eq, bne_iff_ne, beq_eq_false_iff_ne, bne_eq_false_iff_eq, Bool.true_and, ne_eq, Decidable.not_not, Int.not_lt, Int.not_le, Nat.not_lt, Nat.not_le, strB_nil, strB_nil', strB_nnil, strB_nnil'] at h4
      refine run_skip ?_
      refine run_seq ?_
      refine run_block ?_
      refine run_seq ?_
      refine run_region (q_move .n (.t rfl) rfl <|
          q_assign .n (.t rfl) rfl <|
          Lex.nil) ?_
      refine run_seq ?_
      refine run_region (q_move .n (.t rfl) rfl <|
          q_move .n (.t rfl) rfl <|
          q_move .n (.t rfl) rfl <|
          q_idx_rm .n (.t rfl) (.t rfl) sl_45 (fun _ => by omega) rfl <|
          q_ld1_ro .n (.t rfl) rfl ic_2 rfl <|
          q_call0 (full := false) .n (.c (.t rfl)) he_f (.cons (.t rfl) .nil) (passes_app hr_f (.cons (.b (.a (.same rfl))) .nil)) (fun hg => hc_f (at' s_ x1)) rfl (fun h => Bool.noConfusion h) rfl <|
          Lex.nil) ?_
      refine run_cond (.t rfl) rfl (fun h5 => ?_) (fun h5 => ?_)
      · try simp only [Bool.and_eq_true, Bool.or_eq_true, Bool.not_eq_true', Bool.and_eq_false_iff, Bool.or_eq_false_iff, Bool.not_eq_false', decide_eq_true_eq, decide_eq_false_iff_not, beq_iff_eq, bne_iff_ne, beq_eq_false_iff_ne, bne_eq_false_iff_eq, Bool.true_and, ne_eq, Decidable.not_not, Int.not_lt, Int.not_le, Nat.not_lt, Nat.not_le, strB_nil, strB_nil', strB_nnil, strB_nnil'] at h5
        refine run_seq ?_
        refine run_region (q_move .n (.t rfl) rfl <|
            q_assign .n (.t rfl) rfl <|
            Lex.nil) ?_
        exact run_ret [] (.cons (.t rfl rfl) .nil) rfl trivial rfl
      · try simp only [Bool.and_eq_true, Bool.or_eq_true, Bool.not_eq_true', Bool.and_eq_false_iff, Bool.or_eq_false_iff, Bool.not_eq_false', decide_eq_true_eq, decide_eq_false_iff_not, beq_iff_eq, bne_iff_ne, beq_eq_false_iff_ne, bne_eq_false_iff_eq, Bool.true_and, ne_eq, Decidable.not_not, Int.not_lt, Int.not_le, Nat.not_lt, Nat.not_le, strB_nil, strB_nil', strB_nnil, strB_nnil'] at h5
        refine run_skip ?_
        refine run_endB ?_
        refine run_region (q_add .n (.t rfl) (.c rfl) (fun _ => by omega) rfl <|
            q_move .n (.t rfl) rfl <|
            Lex.nil) ?_
        exact run_again (x1 + 1) ⟨by omega, by omega⟩ (by omega) (sub_of [] ⟨rfl, clo_ren hr_f rfl, rfl, rfl, trivial⟩ trivial rfl)
    · try simp only [Bool.and_eq_true, Bool.or_eq_true, Bool.not_eq_true', Bool.and_eq_false_iff, Bool.or_eq_false_iff, Bool.not_eq_false', decide_eq_true_eq, decide_eq_false_iff_not, beq_iff_eq, bne_iff_ne, beq_eq_false_iff_ne, bne_eq_false_iff_eq, Bool.true_and, ne_eq, Decidable.not_not, Int.not_lt, Int.not_le, Nat.not_lt, Nat.not_le, strB_nil, strB_nil', strB_nnil, strB_nnil'] at h4
      refine run_exit rfl ?_
      exact run_cont hk2 x1 ⟨by omega, by omega, by omega⟩ (sub_of [] trivial trivial rfl)

/-! ### slices_ContainsFunc_int64 -/
theorem c_slices_ContainsFunc_int64 (s_ : List Int) (f : Int → Bool) (F_f : FuncId) (C_f : List V) (he_f : entB Tryd.prog F_f = true) (hr_f : C_f.all V.ro = true) (hc_f : ∀ (a0 : Int), Con Tryd.prog F_f ([.int .i64 a0] ++ C_f) [] (.bool (f a0)) []) : Con Tryd.prog 90 [.sl 1 (s_.map (V.int .i64)), .clo F_f C_f] [] (.bool (m_slices_ContainsFunc_int64 s_ f)) ([]) := by
  refine con_intro (out := fun r : Bool => ((.bool r : V), ([] : List (Nat × Option O)))) (r := (m_slices_ContainsFunc_int64 s_ f)) Tryd.func90 rfl Tryd.ntmps90 rfl ?_
  refine run_fact (t := 0) rfl fun hl => ?_
  have l1 := hl; clear hl; simp only [List.length_map] at l1
  refine run_seq ?_
  refine run_region (q_assign .n (.c rfl) rfl <|
      Lex.nil) ?_
  refine run_seq ?_
  refine run_region (q_move .n (.t rfl) rfl <|
      q_move .n (.t rfl) rfl <|
      q_call0 (full := false) .n .f en_100 (.cons (.t rfl) (.cons (.t rfl) .nil)) (.cons (.b (.a (.same rfl))) (.cons (.clo (passBs_ro hr_f)) .nil)) (fun hg => c_slices_IndexFunc_int64 s_ f F_f C_f he_f hr_f hc_f) rfl (fun h => Bool.noConfusion h) rfl <|
      q_int .n (.t rfl) (.c rfl) rfl rfl <|
      q_assign .n (.t rfl) rfl <|
      Lex.nil) ?_
  exact run_ret [] (.cons (.t rfl rfl) .nil) rfl trivial rfl

/-! ### impl_allWithin_1 -/
theorem c_impl_allWithin_1 (n_ : Int) (p1 : Int) (p2 : Int) : Con Tryd.prog 91 [.int .i64 n_, .rp [.int .i64 p1], .rp [.int .i64 p2]] [] (.bool (m_impl_allWithin_1 n_ p1 p2)) ([]) := by
  refine con_intro (out := fun r : Bool => ((.bool r : V), ([] : List (Nat × Option O)))) (r := (m_impl_allWithin_1 n_ p1 p2)) Tryd.func91 rfl Tryd.ntmps91 rfl ?_
  refine run_seq ?_
  refine run_region (q_assign .n (.c rfl) rfl <|
      Lex.nil) ?_
  refine run_seq ?_
  refine run_region (q_move .n (.t rfl) rfl <|
      q_ld1_ro .n (.t rfl) rfl ic_2 rfl <|
      q_ld1_ro .n (.t rfl) rfl ic_2 rfl <|
      q_call0 (full := false) .n .f en_59 (.cons (.t rfl) (.cons (.t rfl) (.cons (.t rfl) .nil))) (.cons (.b (.a (.same rfl))) (.cons (.b (.a (.same rfl))) (.cons (.b (.a (.same rfl))) .nil))) (fun hg => c_impl_within n_ p1 p2) rfl (fun h => Bool.noConfusion h) rfl <|
      q_not .n (.t rfl) rfl <|
      q_assign .n (.t rfl) rfl <|
      Lex.nil) ?_
  exact run_ret [] (.cons (.t rfl rfl) .nil) rfl trivial rfl

/-! ### impl_allWithin -/
theorem c_impl_allWithin (list : List Int) (low : Int) (high : Int) : Con Tryd.prog 70 [.sl 1 (list.map (V.int .i64)), .int .i64 low, .int .i64 high] [] (.bool (m_impl_allWithin list low high)) ([]) := by
  refine con_intro (out := fun r : Bool => ((.bool r : V), ([] : List (Nat × Option O)))) (r := (m_impl_allWithin list low high)) Tryd.func70 rfl Tryd.ntmps70 rfl ?_
  refine run_fact (t := 0) rfl fun hl => ?_
  have l1 := hl; clear hl; simp only [List.length_map] at l1
  refine run_seq ?_
  refine run_region (q_box (l := 200) .n rfl (.t rfl) rfl rfl rfl rfl <|
      q_box (l := 201) .n rfl (.t rfl) rfl rfl rfl rfl <|
      q_assign .n (.c rfl) rfl <|
      Lex.nil) ?_
  refine run_seq ?_
  refine run_region (q_move .n (.t rfl) rfl <|
      q_clo .n (.cons (.t rfl) (.cons (.t rfl) .nil)) rfl rfl <|
      q_call0 (full := true) .n .f en_90 (.cons (.t rfl) (.cons (.t rfl) .nil)) (.cons (.b (.a (.same rfl))) (.cons (.clo (.cons (.ptr rfl rfl (.inr rfl) rfl rfl (.cons (.same rfl) .nil)) (.cons (.ptr rfl rfl (.inr rfl) rfl rfl (.cons (.same rfl) .nil)) .nil))) .nil)) (fun hg => c_slices_ContainsFunc_int64 list (fun (a0 : Int) => m_impl_allWithin_1 a0 low high) 91 [.rp [.int .i64 low], .rp [.int .i64 high]] en_91 rfl (fun a0 => c_impl_allWithin_1 a0 low high)) rfl (fun _ => rfl) rfl <|
      q_not .n (.t rfl) rfl <|
      q_assign .n (.t rfl) rfl <|
      Lex.nil) ?_
  exact run_ret [] (.cons (.t rfl rfl) .nil) rfl trivial rfl

/-! ### impl_versionsCode -/
theorem c_impl_versionsCode (list : List gVersion) (numbers : List Int) : Con Tryd.prog 34 [.sl 4 (list.map gVersion.v), .sl 1 (numbers.map (V.int .i64))] [] (.int .i64 (m_impl_versionsCode list numbers)) ([]) := by
  refine con_intro (out := fun r : Int => ((.int .i64 r : V), ([] : List (Nat × Option O)))) (r := (m_impl_versionsCode list numbers)) Tryd.func34 rfl Tryd.ntmps34 rfl ?_
  refine run_fact (t := 0) rfl fun hl => ?_
  have l1 := hl; clear hl; simp only [List.length_map] at l1
  refine run_fact (t := 1) rfl fun hl => ?_
  have l2 := hl; clear hl; simp only [List.length_map] at l2
  refine run_seq ?_
  refine run_region (q_assign .n (.c rfl) rfl <|
      Lex.nil) ?_
  refine run_seq ?_
  refine run_block ?_
  refine run_seq ?_
  refine run_region (q_move .n (.t rfl) rfl <|
      q_call0 (full := false) .n .f en_57 (.cons (.t rfl) .nil) (.cons (.b (.a (.same rfl))) .nil) (fun hg => c_impl_ValidHistory list) rfl (fun h => Bool.noConfusion h) rfl <|
      q_not .n (.t rfl) rfl <|
      q_assign .n (.t rfl) rfl <|
      Lex.nil) ?_
  refine run_cond (.t rfl) rfl (fun h3 => ?_) (fun h3 => ?_)
  · try simp only [Bool.and_eq_true, Bool.or_eq_true, Bool.not_eq_true', Bool.and_eq_false_iff, Bool.or_eq_false_iff, Bool.not_eq_false', decide_eq_true_eq, decide_eq_false_iff_not, beq_iff_eq, bne_iff_ne, beq_eq_false_iff_ne, bne_eq_false_iff_eq, Bool.true_and, ne_eq, Decidable.not_not, Int.not_lt, Int.not_le, Nat.not_lt, Nat.not_le, strB_nil, strB_nil', strB_nnil, strB_nnil'] at h3
    try with_reducible have hf0h3 := histI_hv h3
    try with_reducible have hf1h3 := histI_hv h3.1
    try with_reducible have hf2h3 := histI_hv h3.2
    try with_reducible have hf3h3 := histI_hv h3.1.1
    try with_reducible have hf4h3 := histI_hv h3.1.2
    try with_reducible have hf5h3 := histI_hv h3.2.1
    try with_reducible have hf6h3 := histI_hv h3.2.2
    try with_reducible have hf7h3 := histI_len h3
    try with_reducible have hf8h3 := histI_len h3.1
    try with_reducible have hf9h3 := histI_len h3.2
    try with_reducible have hf10h3 := histI_len h3.1.1
    try with_reducible have hf11h3 := histI_len h3.1.2
    try with_reducible have hf12h3 := histI_len h3.2.1
    try with_reducible have hf13h3 := histI_len h3.2.2
    refine run_seq ?_
    refine run_region (q_assign .n (.c rfl) rfl <|
        Lex.nil) ?_
    exact run_ret [] (.cons (.t rfl rfl) .nil) rfl trivial rfl
  · try simp only [Bool.and_eq_true, Bool.or_eq_true, Bool.not_eq_true', Bool.and_eq_false_iff, Bool.or_eq_false_iff, Bool.not_eq_false', decide_eq_true_eq, decide_eq_false_iff_not, beq_iff_eq, bne_iff_ne, beq_eq_false_iff_ne, bne_eq_false_iff_eq, Bool.true_and, ne_eq, Decidable.not_not, Int.not_lt, Int.not_le, Nat.not_lt, Nat.not_le, strB_nil, strB_nil', strB_nnil, strB_nnil'] at h3
    try with_reducible have hf0h3 := histI_hv h3
    try with_reducible have hf1h3 := histI_hv h3.1
    try with_reducible have hf2h3 := histI_hv h3.2
    try with_reducible have hf3h3 := histI_hv h3.1.1
    try with_reducible have hf4h3 := histI_hv h3.1.2
    try with_reducible have hf5h3 := histI_hv h3.2.1
    try with_reducible have hf6h3 := histI_hv h3.2.2
    try with_reducible have hf7h3 := histI_len h3
    try with_reducible have hf8h3 := histI_len h3.1
    try with_reducible have hf9h3 := histI_len h3.2
    try with_reducible have hf10h3 := histI_len h3.1.1
    try with_reducible have hf11h3 := histI_len h3.1.2
    try with_reducible have hf12h3 := histI_len h3.2.1
    try with_reducible have hf13h3 := histI_len h3.2.2
    refine run_seq ?_
    refine run_region (q_move .n (.t rfl) rfl <|
        q_move .n (.t rfl) rfl <|
        q_len .n (.t rfl) rfl len_map ss_24 rfl <|
        q_call0 (full := false) .n .f en_70 (.cons (.t rfl) (.cons (.c rfl) (.cons (.t rfl) .nil))) (.cons (.b (.a (.same rfl))) (.cons (.b (.a (.same rfl))) (.cons (.b (.a (.same rfl))) .nil))) (fun hg => c_impl_allWithin numbers 1 (list.length : Int)) rfl (fun h => Bool.noConfusion h) rfl <|
        q_not .n (.t rfl) rfl <|
        q_assign .n (.t rfl) rfl <|
        Lex.nil) ?_
    refine run_cond (.t rfl) rfl (fun h4 => ?_) (fun h4 => ?_)
    · try simp only [Bool.and_eq_true, Bool.or_eq_true, Bool.not_eq_true', Bool.and_eq_false_iff, Bool.or_eq_false_iff, Bool.not_eq_false', decide_eq_true_eq, decide_eq_false_iff_not, beq_iff_eq, bne_iff_ne, beq_eq_false_iff_ne, bne_eq_false_iff_eq, Bool.true_and, ne_eq, Decidable.not_not, Int.not_lt, Int.not_le, Nat.not_lt, Nat.not_le, strB_nil, strB_nil', strB_nnil, strB_nnil'] at h4
      refine run_seq ?_
      refine run_region (q_assign .n (.c rfl) rfl <|
          Lex.nil) ?_
      exact run_ret [] (.cons (.t rfl rfl) .nil) rfl trivial rfl
    · try simp only [Bool.and_eq_true, Bool.or_eq_true, Bool.not_eq_true', Bool.and_eq_false_iff, Bool.or_eq_false_iff, Bool.not_eq_false', decide_eq_true_eq, decide_eq_false_iff_not, beq_iff_eq, bne_iff_ne, beq_eq_false_iff_ne, bne_eq_false_iff_eq, Bool.true_and, ne_eq, Decidable.not_not, Int.not_lt, Int.not_le, Nat.not_lt, Nat.not_le, strB_nil, strB_nil', strB_nnil, strB_nnil'] at h4
      refine run_skip ?_
      refine run_endB ?_
      refine run_seq ?_
      refine run_region (q_assign .n (.c rfl) rfl <|
          Lex.nil) ?_
      exact run_ret [] (.cons (.t rfl rfl) .nil) rfl trivial rfl

/-! ### slices_Clone_impl_Setting -/
theorem c_slices_Clone_impl_Setting (s_ : List gSetting) (hp1 : s_.length ≤ 1048576) : Con Tryd.prog 51 [.sl 2 (s_.map gSetting.v)] [] (.os 100 (m_slices_Clone_impl_Setting s_).length) ([(100, some (.row 75 2 ((m_slices_Clone_impl_Setting s_).map gSetting.v)))]) := by
  refine con_intro (out := fun r : (List gSetting) => ((.os 100 r.length : V), ([(100, some (.row 75 2 (r.map gSetting.v)))] : List (Nat × Option O)))) (r := (m_slices_Clone_impl_Setting s_)) Tryd.func51 rfl Tryd.ntmps51 rfl ?_
  refine run_fact (t := 0) rfl fun hl => ?_
  have l1 := hl; clear hl; simp only [List.length_map] at l1
  refine run_seq ?_
  refine run_region (q_assign .n (.c rfl) rfl <|
      Lex.nil) ?_
  refine run_seq ?_
  refine run_seq ?_
  refine run_region (q_move .n (.t rfl) rfl <|
      q_eqnil .n (.t rfl) (.c rfl) us_34 rfl <|
      Lex.nil) ?_
  refine run_cond_ub (.t rfl) (fun h2 => ?_) ?_
  · have h2 := ub_nil h2
    refine run_r (r' := (([] : List gSetting))) (by show (([] : List gSetting) ++ s_) = (([] : List gSetting)); simp [h2]) ?_
    refine run_seq ?_
    refine run_region (q_assign .n (.c rfl) rfl <|
        Lex.nil) ?_
    refine run_sub (sub_adopt (t := 2) (l := 200) (el := 75) (sz := 2) rfl rfl) ?_
    exact run_ret [(100, 200)] (.cons (.t rfl rfl) .nil) (by first | rfl | (simp only [put_len]; rfl)) ⟨rfl, trivial⟩ rfl
  · skip
    refine run_skip ?_
    refine run_seq ?_
    refine run_region (q_bslicem ([] : List gSetting) (f := gSetting.v) (l := 201) .n rfl rfl .nil rfl si_34 zv_75 rfl rfl rfl <|
        q_move .n (.t rfl) rfl <|
        q_appm (xs := ([] : List gSetting)) (ys := s_) (f := gSetting.v) (l := 202) .n rfl (.ow (.t rfl) rfl (take_all (by simp only [len_map, put_len] <;> rfl)) (by simp only [len_map, put_len] <;> rfl)) (.ro (.t rfl)) si_34 zv_75 rfl (by (simp only [List.length_append, List.length_cons, List.length_nil, List.length_replicate, put_len] at * <;> omega)) rfl rfl <|
        q_assign .n (.t rfl) rfl <|
        Lex.nil) ?_
    exact run_ret [(100, 202)] (.cons (.t rfl rfl) .nil) (by first | rfl | (simp only [put_len]; rfl)) ⟨rfl, trivial⟩ rfl

/-! ### slices_Clone_impl_Version -/
theorem c_slices_Clone_impl_Version (s_ : List gVersion) (hp1 : s_.length ≤ 1048576) : Con Tryd.prog 71 [.sl 4 (s_.map gVersion.v)] [] (.os 100 (m_slices_Clone_impl_Version s_).length) ([(100, some (.row 54 4 ((m_slices_Clone_impl_Version s_).map gVersion.v)))]) := by
  refine con_intro (out := fun r : (List gVersion) => ((.os 100 r.length : V), ([(100, some (.row 54 4 (r.map gVersion.v)))] : List (Nat × Option O)))) (r := (m_slices_Clone_impl_Version s_)) Tryd.func71 rfl Tryd.ntmps71 rfl ?_
  refine run_fact (t := 0) rfl fun hl => ?_
  have l1 := hl; clear hl; simp only [List.length_map] at l1
  refine run_seq ?_
  refine run_region (q_assign .n (.c rfl) rfl <|
      Lex.nil) ?_
  refine run_seq ?_
  refine run_seq ?_
  refine run_region (q_move .n (.t rfl) rfl <|
      q_eqnil .n (.t rfl) (.c rfl) us_24 rfl <|
      Lex.nil) ?_
  refine run_cond_ub (.t rfl) (fun h2 => ?_) ?_
  · have h2 := ub_nil h2
    refine run_r (r' := (([] : List gVersion))) (by show (([] : List gVersion) ++ s_) = (([] : List gVersion)); simp [h2]) ?_
    refine run_seq ?_
    refine run_region (q_assign .n (.c rfl) rfl <|
        Lex.nil) ?_
    refine run_sub (sub_adopt (t := 2) (l := 200) (el := 54) (sz := 4) rfl rfl) ?_
    exact run_ret [(100, 200)] (.cons (.t rfl rfl) .nil) (by first | rfl | (simp only [put_len]; rfl)) ⟨rfl, trivial⟩ rfl
  · skip
    refine run_skip ?_
    refine run_seq ?_
    refine run_region (q_bslicem ([] : List gVersion) (f := gVersion.v) (l := 201) .n rfl rfl .nil rfl si_24 zv_54 rfl rfl rfl <|
        q_move .n (.t rfl) rfl <|
        q_appm (xs := ([] : List gVersion)) (ys := s_) (f := gVersion.v) (l := 202) .n rfl (.ow (.t rfl) rfl (take_all (by simp only [len_map, put_len] <;> rfl)) (by simp only [len_map, put_len] <;> rfl)) (.ro (.t rfl)) si_24 zv_54 rfl (by (simp only [List.length_append, List.length_cons, List.length_nil, List.length_replicate, put_len] at * <;> omega)) rfl rfl <|
        q_assign .n (.t rfl) rfl <|
        Lex.nil) ?_
    exact run_ret [(100, 202)] (.cons (.t rfl rfl) .nil) (by first | rfl | (simp only [put_len]; rfl)) ⟨rfl, trivial⟩ rfl

/-! ### impl_withVersion -/
set_option maxRecDepth 100000 in
set_option maxHeartbeats 4000000 in
theorem c_impl_withVersion (list : List gVersion) (parent : Int) (memo : List UInt8) (state : List gSetting) (hp1 : HV list) (hp2 : state.length ≤ 24) : ConG Tryd.prog 35 [.sl 4 (list.map gVersion.v), .int .i64 parent, .str memo, .sl 2 (state.map gSetting.v)] [] (.tup [.os 100 (m_impl_withVersion list parent memo state).1.length, .int .i64 (m_impl_withVersion list parent memo state).2]) ([(100, some (.row 54 4 ((m_impl_withVersion list parent memo state).1.map gVersion.v)))]) := by
  refine con_introG (out := fun r : (List gVersion) × Int => ((.tup [.os 100 r.1.length, .int .i64 r.2] : V), ([(100, some (.row 54 4 (r.1.map gVersion.v)))] : List (Nat × Option O)))) (r := (m_impl_withVersion list parent memo state)) Tryd.func35 rfl Tryd.ntmps35 rfl ?_
  have hL := hp1.1
  have hC : (m_slices_Clone_impl_Version list).length = list.length := by simp [m_slices_Clone_impl_Version]
  refine run_fact (t := 0) rfl fun hl => ?_
  have l1 := hl; clear hl; simp only [List.length_map] at l1
  refine run_fact (t := 3) rfl fun hl => ?_
  have l2 := hl; clear hl; simp only [List.length_map] at l2
  refine run_seq ?_
  refine run_region (q_assign .n (.c rfl) rfl <|
      q_assign .n (.c rfl) rfl <|
      Lex.nil) ?_
  refine run_seq ?_
  refine run_seq ?_
  refine run_region (q_move .n (.t rfl) rfl <|
      q_len .n (.t rfl) rfl len_map ss_24 rfl <|
      q_int .n (.t rfl) (.c rfl) rfl rfl <|
      Lex.nil) ?_
  refine run_cond (.t rfl) rfl (fun h3 => ?_) (fun h3 => ?_)
  · try simp only [Bool.and_eq_true, Bool.or_eq_true, Bool.not_eq_true', Bool.and_eq_false_iff, Bool.or_eq_false_iff, Bool.not_eq_false', decide_eq_true_eq, decide_eq_false_iff_not, beq_iff_eq, bne_iff_ne, beq_eq_false_iff_ne, bne_eq_false_iff_eq, Bool.true_and, ne_eq, Decidable.not_not, Int.not_lt, Int.not_le, Nat.not_lt, Nat.not_le, strB_nil, strB_nil', strB_nnil, strB_nnil'] at h3
    refine run_seq ?_
    refine run_region (q_assign .n (.c rfl) rfl <|
        q_assign .n (.c rfl) rfl <|
        Lex.nil) ?_
    refine run_sub (sub_adopt (t := 8) (l := 200) (el := 54) (sz := 4) rfl rfl) ?_
    exact run_ret [(100, 200)] (.cons (.t rfl rfl) (.cons (.t rfl rfl) .nil)) (by first | rfl | (simp only [put_len]; rfl)) ⟨rfl, trivial⟩ rfl
  · try simp only [Bool.and_eq_true, Bool.or_eq_true, Bool.not_eq_true', Bool.and_eq_false_iff, Bool.or_eq_false_iff, Bool.not_eq_false', decide_eq_true_eq, decide_eq_false_iff_not, beq_iff_eq, bne_iff_ne, beq_eq_false_iff_ne, bne_eq_false_iff_eq, Bool.true_and, ne_eq, Decidable.not_not, Int.not_lt, Int.not_le, Nat.not_lt, Nat.not_le, strB_nil, strB_nil', strB_nnil, strB_nnil'] at h3
    refine run_skip ?_
    refine run_seq ?_
    refine run_region (q_assign .n (.c rfl) rfl <|
        Lex.nil) ?_
    refine run_seq ?_
    refine run_seq ?_
    refine run_region (q_move .n (.t rfl) rfl <|
        q_callM (full := false) [] [(100, 201)] .n rfl .f en_71 (.cons (.t rfl) .nil) (.cons (.b (.a (.same rfl))) .nil) (c_slices_Clone_impl_Version list (by omega)) trivial rfl rfl (fun h => Bool.noConfusion h) (fun h => Bool.noConfusion h) rfl <|
        q_move .n (.t rfl) rfl <|
        q_len .n (.t rfl) rfl len_map ss_24 rfl <|
        q_add .n (.t rfl) (.c rfl) (fun _ => by omega) rfl <|
        q_move .n (.t rfl) rfl <|
        q_move .n (.t rfl) rfl <|
        q_move .n (.t rfl) rfl <|
        q_build (us := [.int .i64 ((list.length : Int) + 1), .int .i64 parent, .str memo, .sl 2 (state.map gSetting.v)]) .n (.cons (.t rfl) (.cons (.t rfl) (.cons (.t rfl) (.cons (.t rfl) .nil)))) zv_54 pl_54 rfl rfl rfl <|
        q_bslicem ([gVersion.mk ((list.length : Int) + 1) parent memo state] : List gVersion) (f := gVersion.v) (l := 202) .n rfl rfl (.cons (.t rfl) .nil) rfl si_24 zv_54 rfl rfl rfl <|
        q_appm (xs := m_slices_Clone_impl_Version list) (ys := ([gVersion.mk ((list.length : Int) + 1) parent memo state] : List gVersion)) (f := gVersion.v) (l := 203) .n rfl (.ow (.t rfl) rfl (take_all (by simp only [len_map, put_len] <;> rfl)) (by simp only [len_map, put_len] <;> rfl)) (.ow (.t rfl) rfl (take_all (by simp only [len_map, put_len] <;> rfl)) (by simp only [len_map, put_len] <;> rfl)) si_24 zv_54 rfl (by (simp only [List.length_append, List.length_cons, List.length_nil, List.length_replicate, put_len] at * <;> omega)) rfl rfl <|
        q_len .n (.t rfl) rfl rfl ss_24 rfl <|
        q_move .n (.c rfl) rfl <|
        Lex.nil) ?_
    refine run_block ?_
    refine run_sub (sub_adopt (t := 10) (l := 204) (el := 54) (sz := 4) rfl rfl) ?_
    refine run_LOOPG (m_impl_withVersion_b1 list parent memo state) _ _ _ rfl (fun (x1 : (List gVersion) × Int) => 0 ≤ x1.2 ∧ x1.2 ≤ (((m_slices_Clone_impl_Version list) ++ ([gVersion.mk ((list.length : Int) + 1) parent memo state] : List gVersion)).length : Int) ∧ (x1.1.length : Int) + 0 ≤ x1.2 + (([] : List gVersion).length : Int) ∧ (x1.1.length : Int) ≤ x1.2) (fun x1 => 0 ≤ x1.2 ∧ x1.2 ≤ (((m_slices_Clone_impl_Version list) ++ ([gVersion.mk ((list.length : Int) + 1) parent memo state] : List gVersion)).length : Int) ∧ (x1.1.length : Int) + 0 ≤ x1.2 + (([] : List gVersion).length : Int) ∧ (x1.1.length : Int) ≤ x1.2 ∧ (((m_slices_Clone_impl_Version list) ++ ([gVersion.mk ((list.length : Int) + 1) parent memo state] : List gVersion)).length : Int) ≤ x1.2) (fun x1 => ((((m_slices_Clone_impl_Version list) ++ ([gVersion.mk ((list.length : Int) + 1) parent memo state] : List gVersion)).length : Int) - x1.2 : Int).toNat) (fun x1 => ⟨[(10, some (true, .os 204 x1.1.length)), (26, some (true, .os 203 ((m_slices_Clone_impl_Version list) ++ ([gVersion.mk ((list.length : Int) + 1) parent memo state] : List gVersion)).length)), (27, some (true, .int .i64 (((m_slices_Clone_impl_Version list) ++ ([gVersion.mk ((list.length : Int) + 1) parent memo state] : List gVersion)).length : Int))), (28, some (true, .int .i64 x1.2))], [(203, some (.row 54 4 (((m_slices_Clone_impl_Version list) ++ ([gVersion.mk ((list.length : Int) + 1) parent memo state] : List gVersion)).map gVersion.v))), (204, some (.row 54 4 (x1.1.map gVersion.v)))]⟩) (fun x1 => ⟨[(10, some (true, .os 204 x1.1.length))], [(204, some (.row 54 4 (x1.1.map gVersion.v)))]⟩) ⟨by omega, by omega, by (simp only [List.length_append, List.length_cons, List.length_nil, List.length_replicate, put_len] at * <;> omega), by (simp only [List.length_append, List.length_cons, List.length_nil, List.length_replicate, put_len] at * <;> omega)⟩ (by omega) (sub_of [] ⟨rfl, rfl, rfl, rfl, trivial⟩ ⟨rfl, rfl, trivial⟩ rfl) rfl ?_ ?_
    · intro x1 i7
      obtain ⟨e8, e9, e10, e11, e12⟩ := i7
      try dsimp only at *
      refine run_seq ?_
      refine run_region (q_move .n (.t rfl) rfl <|
          q_assign .n (.t rfl) rfl <|
          q_assign .n (.c rfl) rfl <|
          Lex.nil) ?_
      exact run_ret [(100, 204)] (.cons (.t rfl rfl) (.cons (.t rfl rfl) .nil)) (by first | rfl | (simp only [put_len]; rfl)) ⟨rfl, trivial⟩ rfl
    · intro rec1 k1 hk4 x1 i5
      obtain ⟨e13, e14, e15, e16⟩ := i5
      try dsimp only at *
      refine run_seq ?_
      refine run_region (q_int .n (.t rfl) (.t rfl) rfl rfl <|
          Lex.nil) ?_
      refine run_seq ?_
      refine run_cond (.t rfl) rfl (fun h6 => ?_) (fun h6 => ?_)
      · try simp only [Bool.and_eq_true, Bool.or_eq_true, Bool.not_eq_true', Bool.and_eq_false_iff, Bool.or_eq_false_iff, Bool.not_eq_false', decide_eq_true_eq, decide_eq_false_iff_not, beq_iff_eq, bne_iff_ne, beq_eq_false_iff_ne, bne_eq_false_iff_eq, Bool.true_and, ne_eq, Decidable.not_not, Int.not_lt, Int.not_le, Nat.not_lt, Nat.not_le, strB_nil, strB_nil', strB_nnil, strB_nnil'] at h6
        refine run_skip ?_
        refine run_seq ?_
        refine run_block ?_
        refine run_seq ?_
        refine run_region (q_idx_ow .n (.t rfl) (.t rfl) sl_24 (fun _ => by omega) rfl <|
            q_ldN_row .n (.t rfl) rfl (fun _ => by omega) rfl ag_54 rfl rfl rfl <|
            q_alloc (l := 205) .n rfl zv_54 rfl rfl <|
            q_st_boxm [.int .i64 (at' ((m_slices_Clone_impl_Version list) ++ ([gVersion.mk ((list.length : Int) + 1) parent memo state] : List gVersion)) x1.2).Number, .int .i64 (at' ((m_slices_Clone_impl_Version list) ++ ([gVersion.mk ((list.length : Int) + 1) parent memo state] : List gVersion)) x1.2).Parent, .str (at' ((m_slices_Clone_impl_Version list) ++ ([gVersion.mk ((list.length : Int) + 1) parent memo state] : List gVersion)) x1.2).Memo, .sl 2 ((at' ((m_slices_Clone_impl_Version list) ++ ([gVersion.mk ((list.length : Int) + 1) parent memo state] : List gVersion)) x1.2).State.map gSetting.v)] .n rfl (.t rfl) (.t rfl) rfl ts_54 rfl rfl <|
            Lex.nil) ?_
        refine run_seq ?_
        refine run_ro <| ro_lex (l1 := [_, _, _, _]) (l2 := [_]) rfl (q_fld_ow .n (.t rfl) fo_54_3 rfl <|
            q_ld1_ow .n (.t rfl) rfl (.inr rfl) (fun _ => rfl) rfl ic_34 rfl <|
            q_callM (full := false) [] [(100, 206)] .n rfl .f en_51 (.cons (.t rfl) .nil) (.cons (.b (.a (.same rfl))) .nil) (c_slices_Clone_impl_Setting (at' ((m_slices_Clone_impl_Version list) ++ ([gVersion.mk ((list.length : Int) + 1) parent memo state] : List gVersion)) x1.2).State (by ((have hq := with_st (n := (list.length : Int) + 1) (p := parent) (memo := memo) hp1 hp2 (i := x1.2) ⟨by assumption, by assumption⟩; omega)))) trivial rfl rfl (fun h => Bool.noConfusion h) (fun h => Bool.noConfusion h) rfl <|
            q_fld_ow .n (.t rfl) fo_54_3 rfl <|
            Lex.nil) <|
            ro_freezeL (l := 206) [34] ⟨rfl, trivial⟩ rfl (take_all (by simp only [len_map, put_len] <;> rfl)) (by simp only [len_map, put_len] <;> rfl) rfl <|
            ro_lex (l1 := [_]) (l2 := []) rfl (q_st_boxm [.int .i64 (at' ((m_slices_Clone_impl_Version list) ++ ([gVersion.mk ((list.length : Int) + 1) parent memo state] : List gVersion)) x1.2).Number, .int .i64 (at' ((m_slices_Clone_impl_Version list) ++ ([gVersion.mk ((list.length : Int) + 1) parent memo state] : List gVersion)) x1.2).Parent, .str (at' ((m_slices_Clone_impl_Version list) ++ ([gVersion.mk ((list.length : Int) + 1) parent memo state] : List gVersion)) x1.2).Memo, .sl 2 ((m_slices_Clone_impl_Setting (at' ((m_slices_Clone_impl_Version list) ++ ([gVersion.mk ((list.length : Int) + 1) parent memo state] : List gVersion)) x1.2).State).map gSetting.v)] .n rfl (.t rfl) (.t rfl) rfl ts_34 rfl rfl <|
            Lex.nil) <|
            ro_end ?_
        refine run_region (q_move .n (.t rfl) rfl <|
            q_ldN_ow .n (.t rfl) rfl (.inr rfl) ag_54 (fun _ => rfl) rfl rfl <|
            q_bslicem ([gVersion.mk (at' ((m_slices_Clone_impl_Version list) ++ ([gVersion.mk ((list.length : Int) + 1) parent memo state] : List gVersion)) x1.2).Number (at' ((m_slices_Clone_impl_Version list) ++ ([gVersion.mk ((list.length : Int) + 1) parent memo state] : List gVersion)) x1.2).Parent (at' ((m_slices_Clone_impl_Version list) ++ ([gVersion.mk ((list.length : Int) + 1) parent memo state] : List gVersion)) x1.2).Memo (m_slices_Clone_impl_Setting (at' ((m_slices_Clone_impl_Version list) ++ ([gVersion.mk ((list.length : Int) + 1) parent memo state] : List gVersion)) x1.2).State)] : List gVersion) (f := gVersion.v) (l := 207) .n rfl rfl (.cons (.t rfl) .nil) rfl si_24 zv_54 rfl rfl rfl <|
            q_appm (xs := x1.1) (ys := ([gVersion.mk (at' ((m_slices_Clone_impl_Version list) ++ ([gVersion.mk ((list.length : Int) + 1) parent memo state] : List gVersion)) x1.2).Number (at' ((m_slices_Clone_impl_Version list) ++ ([gVersion.mk ((list.length : Int) + 1) parent memo state] : List gVersion)) x1.2).Parent (at' ((m_slices_Clone_impl_Version list) ++ ([gVersion.mk ((list.length : Int) + 1) parent memo state] : List gVersion)) x1.2).Memo (m_slices_Clone_impl_Setting (at' ((m_slices_Clone_impl_Version list) ++ ([gVersion.mk ((list.length : Int) + 1) parent memo state] : List gVersion)) x1.2).State)] : List gVersion)) (f := gVersion.v) (l := 208) .n rfl (.ow (.t rfl) rfl (take_all (by simp only [len_map, put_len] <;> rfl)) (by simp only [len_map, put_len] <;> rfl)) (.ow (.t rfl) rfl (take_all (by simp only [len_map, put_len] <;> rfl)) (by simp only [len_map, put_len] <;> rfl)) si_24 zv_54 rfl (by (simp only [List.length_append, List.length_cons, List.length_nil, List.length_replicate, put_len] at * <;> omega)) rfl rfl <|
            q_assign .n (.t rfl) rfl <|
            Lex.nil) ?_
        refine run_endB ?_
        refine run_region (q_add .n (.t rfl) (.c rfl) (fun _ => by (simp only [List.length_append, List.length_cons, List.length_nil, List.length_replicate, put_len] at * <;> omega)) rfl <|
            q_move .n (.t rfl) rfl <|
            Lex.nil) ?_
        exact run_againG (x1.1 ++ ([gVersion.mk (at' ((m_slices_Clone_impl_Version list) ++ ([gVersion.mk ((list.length : Int) + 1) parent memo state] : List gVersion)) x1.2).Number (at' ((m_slices_Clone_impl_Version list) ++ ([gVersion.mk ((list.length : Int) + 1) parent memo state] : List gVersion)) x1.2).Parent (at' ((m_slices_Clone_impl_Version list) ++ ([gVersion.mk ((list.length : Int) + 1) parent memo state] : List gVersion)) x1.2).Memo (m_slices_Clone_impl_Setting (at' ((m_slices_Clone_impl_Version list) ++ ([gVersion.mk ((list.length : Int) + 1) parent memo state] : List gVersion)) x1.2).State)] : List gVersion), x1.2 + 1) ⟨by omega, by omega, by (simp only [List.length_append, List.length_cons, List.length_nil, List.length_replicate, put_len] at * <;> omega), by (simp only [List.length_append, List.length_cons, List.length_nil, List.length_replicate, put_len] at * <;> omega)⟩ (by omega) (sub_of [(204, 208)] ⟨rfl, rfl, rfl, rfl, trivial⟩ ⟨rfl, rfl, trivial⟩ rfl)
      · try simp only [Bool.and_eq_true, Bool.or_eq_true, Bool.not_eq_true', Bool.and_eq_false_iff, Bool.or_eq_false_iff, Bool.not_eq_false', decide_eq_true_eq, decide_eq_false_iff_not, beq_iff_eq, bne_iff_ne, beq_eq_false_iff_ne, bne_eq_false_iff_eq, Bool.true_and, ne_eq, Decidable.not_not, Int.not_lt, Int.not_le, Nat.not_lt, Nat.not_le, strB_nil, strB_nil', strB_nnil, strB_nnil'] at h6
        refine run_exit rfl ?_
        exact run_cont hk4 (x1.1, x1.2) ⟨by omega, by omega, by omega, by omega, by omega⟩ (sub_of [] ⟨rfl, trivial⟩ ⟨rfl, trivial⟩ rfl)

/-! ### strconv_FormatInt -/


/-! ### impl_Decimal -/
theorem c_impl_Decimal (n_ : Int) (hp1 : -9223372036854775808 ≤ n_ ∧ n_ ≤ 9223372036854775807) : Con Tryd.prog 36 [.int .i64 n_] [] (.str (m_impl_Decimal n_)) ([]) := by
  refine con_intro (out := fun r : (List UInt8) => ((.str r : V), ([] : List (Nat × Option O)))) (r := (m_impl_Decimal n_)) Tryd.func36 rfl Tryd.ntmps36 rfl ?_
  refine run_seq ?_
  refine run_region (q_assign .n (.c rfl) rfl <|
      Lex.nil) ?_
  refine run_seq ?_
  refine run_region (q_move .n (.t rfl) rfl <|
      q_call0 (full := false) .n .f en_72 (.cons (.t rfl) (.cons (.c rfl) .nil)) (.cons (.b (.a (.same rfl))) (.cons (.b (.a (.same rfl))) .nil)) (fun hg => c_strconv_FormatInt n_ 10 (by omega) (by omega)) rfl (fun h => Bool.noConfusion h) rfl <|
      q_assign .n (.t rfl) rfl <|
      Lex.nil) ?_
  exact run_ret [] (.cons (.t rfl rfl) .nil) rfl trivial rfl

/-! ### impl_versionState -/
theorem c_impl_versionState (list : List gVersion) (number : Int) (hp1 : HV list) (hp2 : 0 ≤ number ∧ number ≤ list.length) : Con Tryd.prog 37 [.sl 4 (list.map gVersion.v), .int .i64 number] [] (.sl 2 ((m_impl_versionState list number).map gSetting.v)) ([]) := by
  refine con_intro (out := fun r : (List gSetting) => ((.sl 2 (r.map gSetting.v) : V), ([] : List (Nat × Option O)))) (r := (m_impl_versionState list number)) Tryd.func37 rfl Tryd.ntmps37 rfl ?_
  have hL := hp1.1
  have hW := wr64 (n := number - 1) (by omega)
  refine run_fact (t := 0) rfl fun hl => ?_
  have l1 := hl; clear hl; simp only [List.length_map] at l1
  refine run_seq ?_
  refine run_region (q_assign .n (.c rfl) rfl <|
      Lex.nil) ?_
  refine run_seq ?_
  refine run_seq ?_
  refine run_region (q_move .n (.t rfl) rfl <|
      q_int .n (.t rfl) (.c rfl) rfl rfl <|
      Lex.nil) ?_
  refine run_cond (.t rfl) rfl (fun h2 => ?_) (fun h2 => ?_)
  · try simp only [Bool.and_eq_true, Bool.or_eq_true, Bool.not_eq_true', Bool.and_eq_false_iff, Bool.or_eq_false_iff, Bool.not_eq_false', decide_eq_true_eq, decide_eq_false_iff_not, beq_iff_eq, bne_iff_ne, beq_eq_false_iff_ne, bne_eq_false_iff_eq, Bool.true_and, ne_eq, Decidable.not_not, Int.not_lt, Int.not_le, Nat.not_lt, Nat.not_le, strB_nil, strB_nil', strB_nnil, strB_nnil'] at h2
    refine run_seq ?_
    refine run_region (q_assign .n (.c rfl) rfl <|
        Lex.nil) ?_
    refine run_sub (sub_nls (t := 4) (sz := 2) rfl) ?_
    exact run_ret [] (.cons (.t rfl rfl) .nil) rfl trivial rfl
  · try simp only [Bool.and_eq_true, Bool.or_eq_true, Bool.not_eq_true', Bool.and_eq_false_iff, Bool.or_eq_false_iff, Bool.not_eq_false', decide_eq_true_eq, decide_eq_false_iff_not, beq_iff_eq, bne_iff_ne, beq_eq_false_iff_ne, bne_eq_false_iff_eq, Bool.true_and, ne_eq, Decidable.not_not, Int.not_lt, Int.not_le, Nat.not_lt, Nat.not_le, strB_nil, strB_nil', strB_nnil, strB_nnil'] at h2
    refine run_skip ?_
    refine run_seq ?_
    refine run_region (q_move .n (.t rfl) rfl <|
        q_move .n (.t rfl) rfl <|
        q_int .n (.t rfl) (.c rfl) rfl rfl <|
        q_idx_rm .n (.t rfl) (.t rfl) sl_24 (fun _ => by omega) rfl <|
        q_fld_ro .n (.t rfl) fo_54_3 rfl <|
        q_ld1_ro .n (.t rfl) rfl ic_34 rfl <|
        q_assign .n (.t rfl) rfl <|
        Lex.nil) ?_
    exact run_ret [] (.cons (.t rfl rfl) .nil) rfl trivial rfl

/-! ### impl_UndoVersion -/
set_option maxRecDepth 100000 in
set_option maxHeartbeats 4000000 in
theorem c_impl_UndoVersion (list : List gVersion) (number : Int) : ConG Tryd.prog 8 [.sl 4 (list.map gVersion.v), .int .i64 number] [] (.tup [.os 100 (m_impl_UndoVersion list number).1.length, .int .i64 (m_impl_UndoVersion list number).2]) ([(100, some (.row 54 4 ((m_impl_UndoVersion list number).1.map gVersion.v)))]) := by
  refine con_introG (out := fun r : (List gVersion) × Int => ((.tup [.os 100 r.1.length, .int .i64 r.2] : V), ([(100, some (.row 54 4 (r.1.map gVersion.v)))] : List (Nat × Option O)))) (r := (m_impl_UndoVersion list number)) Tryd.func8 rfl Tryd.ntmps8 rfl ?_
  refine run_fact (t := 0) rfl fun hl => ?_
  have l1 := hl; clear hl; simp only [List.length_map] at l1
  refine run_seq ?_
  refine run_region (q_assign .n (.c rfl) rfl <|
      q_assign .n (.c rfl) rfl <|
      Lex.nil) ?_
  refine run_seq ?_
  refine run_seq ?_
  refine run_region (q_move .n (.t rfl) rfl <|
      q_move .n (.t rfl) rfl <|
      q_bslicem ([number] : List Int) (f := V.int .i64) (l := 200) .n rfl rfl (.cons (.t rfl) .nil) rfl si_45 zv_2 rfl rfl rfl <|
      q_call0 (full := true) .n .f en_34 (.cons (.t rfl) (.cons (.t rfl) .nil)) (.cons (.b (.a (.same rfl))) (.cons (.b (.a (.own rfl rfl rfl (take_all (by simp only [len_map, put_len] <;> rfl)) (by simp only [len_map, put_len] <;> rfl)))) .nil)) (fun hg => c_impl_versionsCode list ([number] : List Int)) rfl (fun _ => rfl) rfl <|
      q_assign .n (.t rfl) rfl <|
      Lex.nil) ?_
  refine run_seq ?_
  refine run_region (q_move .n (.t rfl) rfl <|
      q_int .n (.t rfl) (.c rfl) rfl rfl <|
      Lex.nil) ?_
  refine run_cond (.t rfl) rfl (fun h2 => ?_) (fun h2 => ?_)
  · try simp only [Bool.and_eq_true, Bool.or_eq_true, Bool.not_eq_true', Bool.and_eq_false_iff, Bool.or_eq_false_iff, Bool.not_eq_false', decide_eq_true_eq, decide_eq_false_iff_not, beq_iff_eq, bne_iff_ne, beq_eq_false_iff_ne, bne_eq_false_iff_eq, Bool.true_and, ne_eq, Decidable.not_not, Int.not_lt, Int.not_le, Nat.not_lt, Nat.not_le, strB_nil, strB_nil', strB_nnil, strB_nnil'] at h2
    try with_reducible have hf0h2 := vcodeG_len h2
    try with_reducible have hf1h2 := vcodeG_len h2.1
    try with_reducible have hf2h2 := vcodeG_len h2.2
    try with_reducible have hf3h2 := vcodeG_len h2.1.1
    try with_reducible have hf4h2 := vcodeG_len h2.1.2
    try with_reducible have hf5h2 := vcodeG_len h2.2.1
    try with_reducible have hf6h2 := vcodeG_len h2.2.2
    try with_reducible have hf7h2 := vcodeG_hv h2
    try with_reducible have hf8h2 := vcodeG_hv h2.1
    try with_reducible have hf9h2 := vcodeG_hv h2.2
    try with_reducible have hf10h2 := vcodeG_hv h2.1.1
    try with_reducible have hf11h2 := vcodeG_hv h2.1.2
    try with_reducible have hf12h2 := vcodeG_hv h2.2.1
    try with_reducible have hf13h2 := vcodeG_hv h2.2.2
    refine run_seq ?_
    refine run_region (q_move .n (.t rfl) rfl <|
        q_assign .n (.c rfl) rfl <|
        q_assign .n (.t rfl) rfl <|
        Lex.nil) ?_
    refine run_sub (sub_adopt (t := 4) (l := 201) (el := 54) (sz := 4) rfl rfl) ?_
    exact run_ret [(100, 201)] (.cons (.t rfl rfl) (.cons (.t rfl rfl) .nil)) (by first | rfl | (simp only [put_len]; rfl)) ⟨rfl, trivial⟩ rfl
  · try simp only [Bool.and_eq_true, Bool.or_eq_true, Bool.not_eq_true', Bool.and_eq_false_iff, Bool.or_eq_false_iff, Bool.not_eq_false', decide_eq_true_eq, decide_eq_false_iff_not, beq_iff_eq, bne_iff_ne, beq_eq_false_iff_ne, bne_eq_false_iff_eq, Bool.true_and, ne_eq, Decidable.not_not, Int.not_lt, Int.not_le, Nat.not_lt, Nat.not_le, strB_nil, strB_nil', strB_nnil, strB_nnil'] at h2
    try with_reducible have hf0h2 := vcodeG_len h2
    try with_reducible have hf1h2 := vcodeG_len h2.1
    try with_reducible have hf2h2 := vcodeG_len h2.2
    try with_reducible have hf3h2 := vcodeG_len h2.1.1
    try with_reducible have hf4h2 := vcodeG_len h2.1.2
    try with_reducible have hf5h2 := vcodeG_len h2.2.1
    try with_reducible have hf6h2 := vcodeG_len h2.2.2
    try with_reducible have hf7h2 := vcodeG_hv h2
    try with_reducible have hf8h2 := vcodeG_hv h2.1
    try with_reducible have hf9h2 := vcodeG_hv h2.2
    try with_reducible have hf10h2 := vcodeG_hv h2.1.1
    try with_reducible have hf11h2 := vcodeG_hv h2.1.2
    try with_reducible have hf12h2 := vcodeG_hv h2.2.1
    try with_reducible have hf13h2 := vcodeG_hv h2.2.2
    refine run_skip ?_
    refine run_seq ?_
    refine run_drawG fmo (Lex.appG (l1 := [_, _, _, _, _, _, _, _, _, _, _, _, _]) (q_move .n (.t rfl) rfl <|
        q_move .n (.t rfl) rfl <|
        q_move .n (.t rfl) rfl <|
        q_call0 (full := false) .n .f en_36 (.cons (.t rfl) .nil) (.cons (.b (.a (.same rfl))) .nil) (fun hg => c_impl_Decimal number (by ((have hq := vcode1_par (by assumption : m_impl_versionsCode list ([number] : List Int) = 0); obtain ⟨q1, q2, q3, q4, q5⟩ := hq; have q6 := decI_len (n := number) (by omega); first | omega | (show 5 + (m_impl_Decimal number).length ≤ 9223372036854775807; omega) | (rw [q3]; omega) | (rw [q3]; exact ⟨q4, q5⟩) | (rw [q3]; exact vstate24 (by assumption) ⟨q4, q5⟩))))) rfl (fun h => Bool.noConfusion h) rfl <|
        q_strcat .n (.c rfl) (.t rfl) (fun _ => by ((have hq := vcode1_par (by assumption : m_impl_versionsCode list ([number] : List Int) = 0); obtain ⟨q1, q2, q3, q4, q5⟩ := hq; have q6 := decI_len (n := number) (by omega); first | omega | (show 5 + (m_impl_Decimal number).length ≤ 9223372036854775807; omega) | (rw [q3]; omega) | (rw [q3]; exact ⟨q4, q5⟩) | (rw [q3]; exact vstate24 (by assumption) ⟨q4, q5⟩)))) rfl <|
        q_move .n (.t rfl) rfl <|
        q_move .n (.t rfl) rfl <|
        q_move .n (.t rfl) rfl <|
        q_int .n (.t rfl) (.c rfl) rfl rfl <|
        q_idx_rm .n (.t rfl) (.t rfl) sl_24 (fun _ => by ((have hq := vcode1_par (by assumption : m_impl_versionsCode list ([number] : List Int) = 0); obtain ⟨q1, q2, q3, q4, q5⟩ := hq; have q6 := decI_len (n := number) (by omega); first | omega | (show 5 + (m_impl_Decimal number).length ≤ 9223372036854775807; omega) | (rw [q3]; omega) | (rw [q3]; exact ⟨q4, q5⟩) | (rw [q3]; exact vstate24 (by assumption) ⟨q4, q5⟩)))) rfl <|
        q_fld_ro .n (.t rfl) fo_54_1 rfl <|
        q_ld1_ro .n (.t rfl) rfl ic_2 rfl <|
        q_call0 (full := false) .n .f en_37 (.cons (.t rfl) (.cons (.t rfl) .nil)) (.cons (.b (.a (.same rfl))) (.cons (.b (.a (.same rfl))) .nil)) (fun hg => c_impl_versionState list (at' list (IntKind.wrap .i64 (number - 1))).Parent (by omega) (by ((have hq := vcode1_par (by assumption : m_impl_versionsCode list ([number] : List Int) = 0); obtain ⟨q1, q2, q3, q4, q5⟩ := hq; have q6 := decI_len (n := number) (by omega); first | omega | (show 5 + (m_impl_Decimal number).length ≤ 9223372036854775807; omega) | (rw [q3]; omega) | (rw [q3]; exact ⟨q4, q5⟩) | (rw [q3]; exact vstate24 (by assumption) ⟨q4, q5⟩))))) rfl (fun h => Bool.noConfusion h) rfl <|
        Lex.nil) <|
        g_callG [(100, 202)] .f en_35 (.cons (.t rfl) (.cons (.t rfl) (.cons (.t rfl) (.cons (.t rfl) .nil)))) (.cons (.b (.a (.same rfl))) (.cons (.b (.a (.same rfl))) (.cons (.b (.a (.same rfl))) (.cons (.b (.a (.same rfl))) .nil)))) (c_impl_withVersion list number (([117, 110, 100, 111, 32] : List UInt8) ++ (m_impl_Decimal number)) (m_impl_versionState list (at' list (IntKind.wrap .i64 (number - 1))).Parent) (by omega) (by ((have hq := vcode1_par (by assumption : m_impl_versionsCode list ([number] : List Int) = 0); obtain ⟨q1, q2, q3, q4, q5⟩ := hq; have q6 := decI_len (n := number) (by omega); first | omega | (show 5 + (m_impl_Decimal number).length ≤ 9223372036854775807; omega) | (rw [q3]; omega) | (rw [q3]; exact ⟨q4, q5⟩) | (rw [q3]; exact vstate24 (by assumption) ⟨q4, q5⟩))))) rfl rfl rfl <|
        Lex.appG (l1 := [_, _, _, _]) (q_ext .n (.t rfl) rfl rfl rfl <|
        q_ext .n (.t rfl) rfl rfl rfl <|
        q_assign .n (.t rfl) rfl <|
        q_assign .n (.t rfl) rfl <|
        Lex.nil) <|
        LexG.nil) (by kernel_rfl) rfl ?_
    exact run_ret [(100, 202)] (.cons (.t rfl rfl) (.cons (.t rfl rfl) .nil)) (by first | rfl | (simp only [put_len]; rfl)) ⟨rfl, trivial⟩ rfl

/-! ### laws_r8Long -/
theorem c_laws_r8Long (code : List Int) (more : List Int) : Con Tryd.prog 12 [.sl 1 (code.map (V.int .u8)), .sl 1 (more.map (V.int .u8))] [] (.bool (m_laws_r8Long code more)) ([]) := by
  refine con_intro (out := fun r : Bool => ((.bool r : V), ([] : List (Nat × Option O)))) (r := (m_laws_r8Long code more)) Tryd.func12 rfl Tryd.ntmps12 rfl ?_
  refine run_fact (t := 0) rfl fun hl => ?_
  have l1 := hl; clear hl; simp only [List.length_map] at l1
  refine run_fact (t := 1) rfl fun hl => ?_
  have l2 := hl; clear hl; simp only [List.length_map] at l2
  refine run_seq ?_
  refine run_region (q_assign .n (.c rfl) rfl <|
      Lex.nil) ?_
  refine run_seq ?_
  refine run_region (q_move .n (.t rfl) rfl <|
      q_len .n (.t rfl) rfl len_map ss_31 rfl <|
      q_int .n (.t rfl) (.c rfl) rfl rfl <|
      q_move .n (.t rfl) rfl <|
      q_move (.f rfl rfl) (.t rfl) rfl <|
      q_len (.f rfl rfl) (.u rfl id) rfl len_map ss_31 rfl <|
      q_int (.f rfl rfl) (.u rfl id) (.c rfl) rfl rfl <|
      q_or .n (.t rfl) (.u rfl id) rfl <|
      q_assign .n (.t rfl) rfl <|
      Lex.nil) ?_
  exact run_ret [] (.cons (.t rfl rfl) .nil) rfl trivial rfl

/-! ### spec_l00From -/
theorem c_spec_l00From (code : List Int) : Con Tryd.prog 42 [.sl 1 (code.map (V.int .u8))] [] (.op 100 0 0 0) ([(100, some (.box 102 [.sl 1 ((m_spec_l00From code).code.map (V.int .u8)), .int .i64 (m_spec_l00From code).at_, .int .u64 (m_spec_l00From code).seed]))]) := by
  refine con_intro (out := fun r : gl00Src => ((.op 100 0 0 0 : V), ([(100, some (.box 102 [.sl 1 (r.code.map (V.int .u8)), .int .i64 r.at_, .int .u64 r.seed]))] : List (Nat × Option O)))) (r := (m_spec_l00From code)) Tryd.func42 rfl Tryd.ntmps42 rfl ?_
  refine run_fact (t := 0) rfl fun hl => ?_
  have l1 := hl; clear hl; simp only [List.length_map] at l1
  refine run_seq ?_
  refine run_region (q_unread .n rfl rfl <|
      Lex.nil) ?_
  refine run_seq ?_
  refine run_region (q_move .n (.t rfl) rfl <|
      q_build (us := [.sl 1 (code.map (V.int .u8)), .int .i64 0, .int .u64 0]) .n (.cons (.t rfl) .nil) zv_102 pl_102 rfl rfl rfl <|
      q_box (l := 200) .n rfl (.t rfl) rfl rfl rfl rfl <|
      q_assign .n (.t rfl) rfl <|
      Lex.nil) ?_
  exact run_ret [(100, 200)] (.cons (.t rfl rfl) .nil) rfl ⟨rfl, trivial⟩ rfl

/-! ### spec_l00Src_next -/
theorem c_spec_l00Src_next (s_ : gl00Src) (hp1 : Lim s_ 1000000) : Con Tryd.prog 94 [.op 0 0 0 0] [(0, some (.box 102 [.sl 1 (s_.code.map (V.int .u8)), .int .i64 s_.at_, .int .u64 s_.seed]))] (.int .i64 (m_spec_l00Src_next s_).1) ([(0, some (.box 102 [.sl 1 ((m_spec_l00Src_next s_).2.code.map (V.int .u8)), .int .i64 (m_spec_l00Src_next s_).2.at_, .int .u64 (m_spec_l00Src_next s_).2.seed]))]) := by
  refine con_intro (out := fun r : Int × gl00Src => ((.int .i64 r.1 : V), ([(0, some (.box 102 [.sl 1 (r.2.code.map (V.int .u8)), .int .i64 r.2.at_, .int .u64 r.2.seed]))] : List (Nat × Option O)))) (r := (m_spec_l00Src_next s_)) Tryd.func94 rfl Tryd.ntmps94 rfl ?_
  have hL := hp1.2 (by decide)
  refine run_seq ?_
  refine run_region (q_assign .n (.c rfl) rfl <|
      Lex.nil) ?_
  refine run_seq ?_
  refine run_region (q_assign .n (.c rfl) rfl <|
      Lex.nil) ?_
  refine run_seq ?_
  refine run_seq ?_
  refine run_draw fmo (q_move .n (.t rfl) rfl <|
      q_nilc_ow .n (.t rfl) rfl <|
      q_fld_ow .n (.t rfl) fo_102_1 rfl <|
      q_ld1_ow .n (.t rfl) rfl (.inr rfl) (fun _ => rfl) rfl ic_3 rfl <|
      q_move .n (.t rfl) rfl <|
      q_nilc_ow .n (.t rfl) rfl <|
      q_fld_ow .n (.t rfl) fo_102_0 rfl <|
      q_ld1_ow .n (.t rfl) rfl (.inr rfl) (fun _ => rfl) rfl ic_31 rfl <|
      q_len .n (.t rfl) rfl len_map ss_31 rfl <|
      q_int .n (.t rfl) (.t rfl) rfl rfl <|
      Lex.nil) (by kernel_rfl) ?_
  refine run_fact (t := 11) rfl fun hl => ?_
  have l1 := hl; clear hl; simp only [List.length_map] at l1
  refine run_join _ _ rfl (fun v2 : Int => True) (fun v2 => ⟨[(0, some (true, .op 0 0 0 0)), (3, some (true, .int .i64 v2))], [(0, some (.box 102 [.sl 1 (s_.code.map (V.int .u8)), .int .i64 s_.at_, .int .u64 s_.seed]))]⟩) (fun v2 _ => ?_) (fun j3 hj4 => ?_)
  · refine run_seq ?_
    refine run_region (q_move .n (.t rfl) rfl <|
        q_nilc_ow .n (.t rfl) rfl <|
        q_fld_ow .n (.t rfl) fo_102_1 rfl <|
        q_ld1_ow .n (.t rfl) rfl (.inr rfl) (fun _ => rfl) rfl ic_3 rfl <|
        q_int .n (.t rfl) (.c rfl) rfl rfl <|
        q_nilc_ow .n (.t rfl) rfl <|
        q_fld_ow .n (.t rfl) fo_102_1 rfl <|
        q_st_boxm [.sl 1 (s_.code.map (V.int .u8)), .int .i64 (IntKind.wrap .i64 (s_.at_ + 1)), .int .u64 s_.seed] .n rfl (.t rfl) (.t rfl) rfl ts_3 rfl rfl <|
        Lex.nil) ?_
    refine run_seq ?_
    refine run_region (q_move .n (.t rfl) rfl <|
        q_move .n (.t rfl) rfl <|
        q_nilc_ow .n (.t rfl) rfl <|
        q_fld_ow .n (.t rfl) fo_102_2 rfl <|
        q_ld1_ow .n (.t rfl) rfl (.inr rfl) (fun _ => rfl) rfl ic_100 rfl <|
        q_int .n (.t rfl) (.c rfl) rfl rfl <|
        q_move .n (.t rfl) rfl <|
        q_conv .n (.t rfl) cv_3_100 rfl <|
        q_int .n (.t rfl) (.t rfl) rfl rfl <|
        q_int .n (.t rfl) (.c rfl) rfl rfl <|
        q_nilc_ow .n (.t rfl) rfl <|
        q_fld_ow .n (.t rfl) fo_102_2 rfl <|
        q_st_boxm [.sl 1 (s_.code.map (V.int .u8)), .int .i64 (IntKind.wrap .i64 (s_.at_ + 1)), .int .u64 (IntKind.wrap .u64 ((IntKind.wrap .u64 ((IntKind.wrap .u64 (s_.seed * 6364136223846793005)) + (IntKind.wrap .u64 v2))) + 1442695040888963407))] .n rfl (.t rfl) (.t rfl) rfl ts_100 rfl rfl <|
        Lex.nil) ?_
    refine run_seq ?_
    refine run_seq ?_
    refine run_draw fmo (q_move .n (.t rfl) rfl <|
        q_nilc_ow .n (.t rfl) rfl <|
        q_fld_ow .n (.t rfl) fo_102_1 rfl <|
        q_ld1_ow .n (.t rfl) rfl (.inr rfl) (fun _ => rfl) rfl ic_3 rfl <|
        q_move .n (.t rfl) rfl <|
        q_nilc_ow .n (.t rfl) rfl <|
        q_fld_ow .n (.t rfl) fo_102_0 rfl <|
        q_ld1_ow .n (.t rfl) rfl (.inr rfl) (fun _ => rfl) rfl ic_31 rfl <|
        q_len .n (.t rfl) rfl len_map ss_31 rfl <|
        q_int .n (.t rfl) (.t rfl) rfl rfl <|
        Lex.nil) (by kernel_rfl) ?_
    refine run_cond (.t rfl) rfl (fun h6 => ?_) (fun h6 => ?_)
    · try simp only [Bool.and_eq_true, Bool.or_eq_true, Bool.not_eq_true', Bool.and_eq_false_iff, Bool.or_eq_false_iff, Bool.not_eq_false', decide_eq_true_eq, decide_eq_false_iff_not, beq_iff_eq, bne_iff_ne, beq_eq_false_iff_ne, bne_eq_false_iff_eq, Bool.true_and, ne_eq, Decidable.not_not, Int.not_lt, Int.not_le, Nat.not_lt, Nat.not_le, strB_nil, strB_nil', strB_nnil, strB_nnil'] at h6
      refine run_seq ?_
      refine run_region (q_move .n (.t rfl) rfl <|
          q_assign .n (.t rfl) rfl <|
          Lex.nil) ?_
      exact run_ret [] (.cons (.t rfl rfl) .nil) rfl ⟨rfl, trivial⟩ rfl
    · try simp only [Bool.and_eq_true, Bool.or_eq_true, Bool.not_eq_true', Bool.and_eq_false_iff, Bool.or_eq_false_iff, Bool.not_eq_false', decide_eq_true_eq, decide_eq_false_iff_not, beq_iff_eq, bne_iff_ne, beq_eq_false_iff_ne, bne_eq_false_iff_eq, Bool.true_and, ne_eq, Decidable.not_not, Int.not_lt, Int.not_le, Nat.not_lt, Nat.not_le, strB_nil, strB_nil', strB_nnil, strB_nnil'] at h6
      refine run_skip ?_
      refine run_seq ?_
      refine run_region (q_move .n (.t rfl) rfl <|
          q_nilc_ow .n (.t rfl) rfl <|
          q_fld_ow .n (.t rfl) fo_102_2 rfl <|
          q_ld1_ow .n (.t rfl) rfl (.inr rfl) (fun _ => rfl) rfl ic_100 rfl <|
          q_shr .n (.t rfl) (.c rfl) (fun _ => by omega) rfl <|
          q_int .n (.t rfl) (.c rfl) rfl rfl <|
          q_conv .n (.t rfl) cv_100_2 rfl <|
          q_assign .n (.t rfl) rfl <|
          Lex.nil) ?_
      exact run_ret [] (.cons (.t rfl rfl) .nil) rfl ⟨rfl, trivial⟩ rfl
  · refine run_cond (.t rfl) rfl (fun h5 => ?_) (fun h5 => ?_)
    · try simp only [Bool.and_eq_true, Bool.or_eq_true, Bool.not_eq_true', Bool.and_eq_false_iff, Bool.or_eq_false_iff, Bool.not_eq_false', decide_eq_true_eq, decide_eq_false_iff_not, beq_iff_eq, bne_iff_ne, beq_eq_false_iff_ne, bne_eq_false_iff_eq, Bool.true_and, ne_eq, Decidable.not_not, Int.not_lt, Int.not_le, Nat.not_lt, Nat.not_le, strB_nil, strB_nil', strB_nnil, strB_nnil'] at h5
      refine run_draw fmo (q_move .n (.t rfl) rfl <|
          q_nilc_ow .n (.t rfl) rfl <|
          q_fld_ow .n (.t rfl) fo_102_0 rfl <|
          q_ld1_ow .n (.t rfl) rfl (.inr rfl) (fun _ => rfl) rfl ic_31 rfl <|
          q_move .n (.t rfl) rfl <|
          q_nilc_ow .n (.t rfl) rfl <|
          q_fld_ow .n (.t rfl) fo_102_1 rfl <|
          q_ld1_ow .n (.t rfl) rfl (.inr rfl) (fun _ => rfl) rfl ic_3 rfl <|
          q_idx_rm .n (.t rfl) (.t rfl) sl_31 (fun _ => by omega) rfl <|
          q_ld1_ro .n (.t rfl) rfl ic_5 rfl <|
          q_conv .n (.t rfl) cv_5_3 rfl <|
          q_assign .n (.t rfl) rfl <|
          Lex.nil) (by kernel_rfl) ?_
      exact run_cont hj4 (IntKind.wrap .i64 (at' s_.code s_.at_)) trivial (sub_of [] ⟨rfl, rfl, trivial⟩ ⟨rfl, trivial⟩ rfl)
    · try simp only [Bool.and_eq_true, Bool.or_eq_true, Bool.not_eq_true', Bool.and_eq_false_iff, Bool.or_eq_false_iff, Bool.not_eq_false', decide_eq_true_eq, decide_eq_false_iff_not, beq_iff_eq, bne_iff_ne, beq_eq_false_iff_ne, bne_eq_false_iff_eq, Bool.true_and, ne_eq, Decidable.not_not, Int.not_lt, Int.not_le, Nat.not_lt, Nat.not_le, strB_nil, strB_nil', strB_nnil, strB_nnil'] at h5
      refine run_skip ?_
      exact run_cont hj4 0 trivial (sub_of [] ⟨rfl, rfl, trivial⟩ ⟨rfl, trivial⟩ rfl)

/-! ### spec_l00Src_pick -/
theorem c_spec_l00Src_pick (s_ : gl00Src) (n_ : Int) (hp1 : Lim s_ 900000) : Con Tryd.prog 74 [.op 0 0 0 0, .int .i64 n_] [(0, some (.box 102 [.sl 1 (s_.code.map (V.int .u8)), .int .i64 s_.at_, .int .u64 s_.seed]))] (.int .i64 (m_spec_l00Src_pick s_ n_).1) ([(0, some (.box 102 [.sl 1 ((m_spec_l00Src_pick s_ n_).2.code.map (V.int .u8)), .int .i64 (m_spec_l00Src_pick s_ n_).2.at_, .int .u64 (m_spec_l00Src_pick s_ n_).2.seed]))]) := by
  refine con_intro (out := fun r : Int × gl00Src => ((.int .i64 r.1 : V), ([(0, some (.box 102 [.sl 1 (r.2.code.map (V.int .u8)), .int .i64 r.2.at_, .int .u64 r.2.seed]))] : List (Nat × Option O)))) (r := (m_spec_l00Src_pick s_ n_)) Tryd.func74 rfl Tryd.ntmps74 rfl ?_
  refine run_seq ?_
  refine run_region (q_assign .n (.c rfl) rfl <|
      Lex.nil) ?_
  refine run_seq ?_
  refine run_seq ?_
  refine run_region (q_move .n (.t rfl) rfl <|
      q_int .n (.t rfl) (.c rfl) rfl rfl <|
      Lex.nil) ?_
  refine run_cond (.t rfl) rfl (fun h1 => ?_) (fun h1 => ?_)
  · try simp only [Bool.and_eq_true, Bool.or_eq_true, Bool.not_eq_true', Bool.and_eq_false_iff, Bool.or_eq_false_iff, Bool.not_eq_false', decide_eq_true_eq, decide_eq_false_iff_not, beq_iff_eq, bne_iff_ne, beq_eq_false_iff_ne, bne_eq_false_iff_eq, Bool.true_and, ne_eq, Decidable.not_not, Int.not_lt, Int.not_le, Nat.not_lt, Nat.not_le, strB_nil, strB_nil', strB_nnil, strB_nnil'] at h1
    refine run_seq ?_
    refine run_region (q_assign .n (.c rfl) rfl <|
        Lex.nil) ?_
    exact run_ret [] (.cons (.t rfl rfl) .nil) rfl ⟨rfl, trivial⟩ rfl
  · try simp only [Bool.and_eq_true, Bool.or_eq_true, Bool.not_eq_true', Bool.and_eq_false_iff, Bool.or_eq_false_iff, Bool.not_eq_false', decide_eq_true_eq, decide_eq_false_iff_not, beq_iff_eq, bne_iff_ne, beq_eq_false_iff_ne, bne_eq_false_iff_eq, Bool.true_and, ne_eq, Decidable.not_not, Int.not_lt, Int.not_le, Nat.not_lt, Nat.not_le, strB_nil, strB_nil', strB_nnil, strB_nnil'] at h1
    refine run_skip ?_
    refine run_seq ?_
    refine run_region (q_move .n (.t rfl) rfl <|
        q_callM (full := false) [(0, 0)] [] .n rfl .f en_94 (.cons (.t rfl) .nil) (.cons (.b (.mutp rfl)) .nil) (c_spec_l00Src_next s_ (by (try dsimp only); (with_reducible (first | apply Lim.mono | apply Lim.out | apply LimA.mono)); (repeat (with_reducible (first | assumption | apply Lim.pick | apply Lim.next | apply Lim.mk))); omega)) ⟨rfl, trivial⟩ rfl rfl (fun h => Bool.noConfusion h) (fun h => Bool.noConfusion h) rfl <|
        q_assign .n (.t rfl) rfl <|
        Lex.nil) ?_
    refine run_seq ?_
    refine run_seq ?_
    refine run_region (q_move .n (.t rfl) rfl <|
        q_int .n (.t rfl) (.c rfl) rfl rfl <|
        Lex.nil) ?_
    refine run_cond (.t rfl) rfl (fun h2 => ?_) (fun h2 => ?_)
    · try simp only [Bool.and_eq_true, Bool.or_eq_true, Bool.not_eq_true', Bool.and_eq_false_iff, Bool.or_eq_false_iff, Bool.not_eq_false', decide_eq_true_eq, decide_eq_false_iff_not, beq_iff_eq, bne_iff_ne, beq_eq_false_iff_ne, bne_eq_false_iff_eq, Bool.true_and, ne_eq, Decidable.not_not, Int.not_lt, Int.not_le, Nat.not_lt, Nat.not_le, strB_nil, strB_nil', strB_nnil, strB_nnil'] at h2
      refine run_region (q_move .n (.t rfl) rfl <|
          q_int .n (.t rfl) (.c rfl) rfl rfl <|
          q_move .n (.t rfl) rfl <|
          q_callM (full := false) [(0, 0)] [] .n rfl .f en_94 (.cons (.t rfl) .nil) (.cons (.b (.mutp rfl)) .nil) (c_spec_l00Src_next (m_spec_l00Src_next s_).2 (by (try dsimp only); (with_reducible (first | apply Lim.mono | apply Lim.out | apply LimA.mono)); (repeat (with_reducible (first | assumption | apply Lim.pick | apply Lim.next | apply Lim.mk))); omega)) ⟨rfl, trivial⟩ rfl rfl (fun h => Bool.noConfusion h) (fun h => Bool.noConfusion h) rfl <|
          q_int .n (.t rfl) (.t rfl) rfl rfl <|
          q_assign .n (.t rfl) rfl <|
          Lex.nil) ?_
      refine run_seq ?_
      refine run_region (q_move .n (.t rfl) rfl <|
          q_move .n (.t rfl) rfl <|
          q_rem .n (.t rfl) (.t rfl) (fun hg => by omega) rfl <|
          q_assign .n (.t rfl) rfl <|
          Lex.nil) ?_
      exact run_ret [] (.cons (.t rfl rfl) .nil) rfl ⟨rfl, trivial⟩ rfl
    · try simp only [Bool.and_eq_true, Bool.or_eq_true, Bool.not_eq_true', Bool.and_eq_false_iff, Bool.or_eq_false_iff, Bool.not_eq_false', decide_eq_true_eq, decide_eq_false_iff_not, beq_iff_eq, bne_iff_ne, beq_eq_false_iff_ne, bne_eq_false_iff_eq, Bool.true_and, ne_eq, Decidable.not_not, Int.not_lt, Int.not_le, Nat.not_lt, Nat.not_le, strB_nil, strB_nil', strB_nnil, strB_nnil'] at h2
      refine run_skip ?_
      refine run_seq ?_
      refine run_region (q_move .n (.t rfl) rfl <|
          q_move .n (.t rfl) rfl <|
          q_rem .n (.t rfl) (.t rfl) (fun hg => by omega) rfl <|
          q_assign .n (.t rfl) rfl <|
          Lex.nil) ?_
      exact run_ret [] (.cons (.t rfl rfl) .nil) rfl ⟨rfl, trivial⟩ rfl

/-! ### spec_l00Src_one -/
theorem c_spec_l00Src_one (s_ : gl00Src) (n_ : Int) (hp1 : Lim s_ 800000) : Con Tryd.prog 76 [.op 0 0 0 0, .int .i64 n_] [(0, some (.box 102 [.sl 1 (s_.code.map (V.int .u8)), .int .i64 s_.at_, .int .u64 s_.seed]))] (.bool (m_spec_l00Src_one s_ n_).1) ([(0, some (.box 102 [.sl 1 ((m_spec_l00Src_one s_ n_).2.code.map (V.int .u8)), .int .i64 (m_spec_l00Src_one s_ n_).2.at_, .int .u64 (m_spec_l00Src_one s_ n_).2.seed]))]) := by
  refine con_intro (out := fun r : Bool × gl00Src => ((.bool r.1 : V), ([(0, some (.box 102 [.sl 1 (r.2.code.map (V.int .u8)), .int .i64 r.2.at_, .int .u64 r.2.seed]))] : List (Nat × Option O)))) (r := (m_spec_l00Src_one s_ n_)) Tryd.func76 rfl Tryd.ntmps76 rfl ?_
  refine run_seq ?_
  refine run_region (q_assign .n (.c rfl) rfl <|
      Lex.nil) ?_
  refine run_seq ?_
  refine run_region (q_move .n (.t rfl) rfl <|
      q_move .n (.t rfl) rfl <|
      q_callM (full := false) [(0, 0)] [] .n rfl .f en_74 (.cons (.t rfl) (.cons (.t rfl) .nil)) (.cons (.b (.mutp rfl)) (.cons (.b (.a (.same rfl))) .nil)) (c_spec_l00Src_pick s_ n_ (by (try dsimp only); (with_reducible (first | apply Lim.mono | apply Lim.out | apply LimA.mono)); (repeat (with_reducible (first | assumption | apply Lim.pick | apply Lim.next | apply Lim.mk))); omega)) ⟨rfl, trivial⟩ rfl rfl (fun h => Bool.noConfusion h) (fun h => Bool.noConfusion h) rfl <|
      q_int .n (.t rfl) (.c rfl) rfl rfl <|
      q_assign .n (.t rfl) rfl <|
      Lex.nil) ?_
  exact run_ret [] (.cons (.t rfl rfl) .nil) rfl ⟨rfl, trivial⟩ rfl

/-! ### spec_l27DrawState -/
theorem c_spec_l27DrawState (s_ : gl00Src) (hp1 : Lim s_ 500000) : Con Tryd.prog 44 [.op 0 0 0 0] [(0, some (.box 102 [.sl 1 (s_.code.map (V.int .u8)), .int .i64 s_.at_, .int .u64 s_.seed]))] (.os 100 (m_spec_l27DrawState s_).1.length) ([(100, some (.row 75 2 ((m_spec_l27DrawState s_).1.map gSetting.v))), (0, some (.box 102 [.sl 1 ((m_spec_l27DrawState s_).2.code.map (V.int .u8)), .int .i64 (m_spec_l27DrawState s_).2.at_, .int .u64 (m_spec_l27DrawState s_).2.seed]))]) := by
  refine con_intro (out := fun r : (List gSetting) × gl00Src => ((.os 100 r.1.length : V), ([(100, some (.row 75 2 (r.1.map gSetting.v))), (0, some (.box 102 [.sl 1 (r.2.code.map (V.int .u8)), .int .i64 r.2.at_, .int .u64 r.2.seed]))] : List (Nat × Option O)))) (r := (m_spec_l27DrawState s_)) Tryd.func44 rfl Tryd.ntmps44 rfl ?_
  refine run_seq ?_
  refine run_region (q_assign .n (.c rfl) rfl <|
      Lex.nil) ?_
  refine run_seq ?_
  refine run_region (q_bslicem ([([97] : List UInt8), ([98] : List UInt8), ([99] : List UInt8), ([100] : List UInt8), ([101] : List UInt8)] : List (List UInt8)) (f := V.str) (l := 200) .n rfl rfl (.cons (.c rfl) (.cons (.c rfl) (.cons (.c rfl) (.cons (.c rfl) (.cons (.c rfl) .nil))))) rfl si_105 zv_9 rfl rfl rfl <|
      q_assign .n (.t rfl) rfl <|
      Lex.nil) ?_
  refine run_seq ?_
  refine run_region (q_bslicem ([] : List gSetting) (f := gSetting.v) (l := 201) .n rfl rfl .nil rfl si_34 zv_75 rfl rfl rfl <|
      q_assign .n (.t rfl) rfl <|
      Lex.nil) ?_
  refine run_seq ?_
  refine run_seq ?_
  refine run_region (q_assign .n (.c rfl) rfl <|
      Lex.nil) ?_
  refine run_block ?_
  refine run_LOOP (m_spec_l27DrawState_b1 s_) _ _ _ rfl (fun (x1 : (List Int) × Int × Int × (List gSetting) × Int) => 0 ≤ x1.2.2.2.2 ∧ x1.2.2.2.2 ≤ 5 ∧ (x1.2.2.2.1.length : Int) + 0 ≤ x1.2.2.2.2 + (([] : List gSetting).length : Int) ∧ LimA x1.1 x1.2.1 (500000 + 4 * x1.2.2.2.2) ∧ (x1.2.2.2.1.length : Int) ≤ x1.2.2.2.2) (fun x1 => 0 ≤ x1.2.2.2.2 ∧ x1.2.2.2.2 ≤ 5 ∧ (x1.2.2.2.1.length : Int) + 0 ≤ x1.2.2.2.2 + (([] : List gSetting).length : Int) ∧ LimA x1.1 x1.2.1 (500000 + 4 * x1.2.2.2.2) ∧ (x1.2.2.2.1.length : Int) ≤ x1.2.2.2.2 ∧ 5 ≤ x1.2.2.2.2) (fun x1 => (5 - x1.2.2.2.2 : Int).toNat) (fun x1 => ⟨[(0, some (true, .op 0 0 0 0)), (3, some (true, .os 200 ([([97] : List UInt8), ([98] : List UInt8), ([99] : List UInt8), ([100] : List UInt8), ([101] : List UInt8)] : List (List UInt8)).length)), (4, some (true, .os 201 x1.2.2.2.1.length)), (5, some (true, .int .i64 x1.2.2.2.2))], [(0, some (.box 102 [.sl 1 (x1.1.map (V.int .u8)), .int .i64 x1.2.1, .int .u64 x1.2.2.1])), (200, some (.row 9 1 (([([97] : List UInt8), ([98] : List UInt8), ([99] : List UInt8), ([100] : List UInt8), ([101] : List UInt8)] : List (List UInt8)).map V.str))), (201, some (.row 75 2 (x1.2.2.2.1.map gSetting.v)))]⟩) (fun x1 => ⟨[(4, some (true, .os 201 x1.2.2.2.1.length))], [(0, some (.box 102 [.sl 1 (x1.1.map (V.int .u8)), .int .i64 x1.2.1, .int .u64 x1.2.2.1])), (201, some (.row 75 2 (x1.2.2.2.1.map gSetting.v)))]⟩) ⟨by (simp only [List.length_append, List.length_cons, List.length_nil, List.length_replicate, put_len] at * <;> omega), by (simp only [List.length_append, List.length_cons, List.length_nil, List.length_replicate, put_len] at * <;> omega), by (simp only [List.length_append, List.length_cons, List.length_nil, List.length_replicate, put_len] at * <;> omega), by (try dsimp only); (with_reducible (first | apply Lim.mono | apply Lim.out | apply LimA.mono)); (repeat (with_reducible (first | assumption | apply Lim.one | apply Lim.pick | apply Lim.bif1 | apply Lim.text | apply Lim.dstate | apply Lim.chg | apply Lim.from | apply Lim.mk))); omega, by (simp only [List.length_append, List.length_cons, List.length_nil, List.length_replicate, put_len] at * <;> omega)⟩ (by (simp only [List.length_append, List.length_cons, List.length_nil, List.length_replicate, put_len] at * <;> omega)) (sub_of [] ⟨rfl, rfl, rfl, rfl, trivial⟩ ⟨rfl, rfl, rfl, trivial⟩ rfl) ?_ ?_
  · intro x1 i5
    obtain ⟨e6, e7, e8, e9, e10, e11⟩ := i5
    try dsimp only at *
    refine run_seq ?_
    refine run_region (q_move .n (.t rfl) rfl <|
        q_assign .n (.t rfl) rfl <|
        Lex.nil) ?_
    exact run_ret [(100, 201)] (.cons (.t rfl rfl) .nil) (by first | rfl | (simp only [put_len]; rfl)) ⟨rfl, rfl, trivial⟩ rfl
  · intro rec1 k1 hk1 x1 i2
    obtain ⟨e12, e13, e14, e15, e16⟩ := i2
    try dsimp only at *
    refine run_seq ?_
    refine run_seq ?_
    refine run_region (q_move .n (.t rfl) rfl <|
        q_int .n (.t rfl) (.c rfl) rfl rfl <|
        Lex.nil) ?_
    refine run_cond (.t rfl) rfl (fun h3 => ?_) (fun h3 => ?_)
    · try simp only [Bool.and_eq_true, Bool.or_eq_true, Bool.not_eq_true', Bool.and_eq_false_iff, Bool.or_eq_false_iff, Bool.not_eq_false', decide_eq_true_eq, decide_eq_false_iff_not, beq_iff_eq, bne_iff_ne, beq_eq_false_iff_ne, bne_eq_false_iff_eq, Bool.true_and, ne_eq, Decidable.not_not, Int.not_lt, Int.not_le, Nat.not_lt, Nat.not_le, strB_nil, strB_nil', strB_nnil, strB_nnil'] at h3
      refine run_skip ?_
      refine run_seq ?_
      refine run_block ?_
      refine run_seq ?_
      refine run_region (q_move .n (.t rfl) rfl <|
          q_callM (full := false) [(0, 0)] [] .n rfl .f en_76 (.cons (.t rfl) (.cons (.c rfl) .nil)) (.cons (.b (.mutp rfl)) (.cons (.b (.a (.same rfl))) .nil)) (c_spec_l00Src_one (gl00Src.mk x1.1 x1.2.1 x1.2.2.1) 2 (by (try dsimp only); (with_reducible (first | apply Lim.mono | apply Lim.out | apply LimA.mono)); (repeat (with_reducible (first | assumption | apply Lim.one | apply Lim.pick | apply Lim.bif1 | apply Lim.text | apply Lim.dstate | apply Lim.chg | apply Lim.from | apply Lim.mk))); omega)) ⟨rfl, trivial⟩ rfl rfl (fun h => Bool.noConfusion h) (fun h => Bool.noConfusion h) rfl <|
          Lex.nil) ?_
      refine run_cond (.t rfl) rfl (fun h4 => ?_) (fun h4 => ?_)
      · try simp only [Bool.and_eq_true, Bool.or_eq_true, Bool.not_eq_true', Bool.and_eq_false_iff, Bool.or_eq_false_iff, Bool.not_eq_false', decide_eq_true_eq, decide_eq_false_iff_not, beq_iff_eq, bne_iff_ne, beq_eq_false_iff_ne, bne_eq_false_iff_eq, Bool.true_and, ne_eq, Decidable.not_not, Int.not_lt, Int.not_le, Nat.not_lt, Nat.not_le, strB_nil, strB_nil', strB_nnil, strB_nnil'] at h4
        refine run_draw fmo (q_move .n (.t rfl) rfl <|
            q_move .n (.t rfl) rfl <|
            q_move .n (.t rfl) rfl <|
            q_idx_ow .n (.t rfl) (.t rfl) sl_105 (fun _ => by (simp only [List.length_append, List.length_cons, List.length_nil, List.length_replicate, put_len] at * <;> omega)) rfl <|
            q_ld1_row .n (.t rfl) rfl (fun _ => by (simp only [List.length_append, List.length_cons, List.length_nil, List.length_replicate, put_len] at * <;> omega)) rfl rfl rfl ic_9 rfl <|
            q_move .n (.t rfl) rfl <|
            q_callM (full := false) [(0, 0)] [] .n rfl .f en_74 (.cons (.t rfl) (.cons (.c rfl) .nil)) (.cons (.b (.mutp rfl)) (.cons (.b (.a (.same rfl))) .nil)) (c_spec_l00Src_pick (m_spec_l00Src_one (gl00Src.mk x1.1 x1.2.1 x1.2.2.1) 2).2 1001 (by (try dsimp only); (with_reducible (first | apply Lim.mono | apply Lim.out | apply LimA.mono)); (repeat (with_reducible (first | assumption | apply Lim.one | apply Lim.pick | apply Lim.bif1 | apply Lim.text | apply Lim.dstate | apply Lim.chg | apply Lim.from | apply Lim.mk))); omega)) ⟨rfl, trivial⟩ rfl rfl (fun h => Bool.noConfusion h) (fun h => Bool.noConfusion h) rfl <|
            q_build (us := [.str (at' ([([97] : List UInt8), ([98] : List UInt8), ([99] : List UInt8), ([100] : List UInt8), ([101] : List UInt8)] : List (List UInt8)) x1.2.2.2.2), .int .i64 (m_spec_l00Src_pick (m_spec_l00Src_one (gl00Src.mk x1.1 x1.2.1 x1.2.2.1) 2).2 1001).1]) .n (.cons (.t rfl) (.cons (.t rfl) .nil)) zv_75 pl_75 rfl rfl rfl <|
            q_bslicem ([gSetting.mk (at' ([([97] : List UInt8), ([98] : List UInt8), ([99] : List UInt8), ([100] : List UInt8), ([101] : List UInt8)] : List (List UInt8)) x1.2.2.2.2) (m_spec_l00Src_pick (m_spec_l00Src_one (gl00Src.mk x1.1 x1.2.1 x1.2.2.1) 2).2 1001).1] : List gSetting) (f := gSetting.v) (l := 202) .n rfl rfl (.cons (.t rfl) .nil) rfl si_34 zv_75 rfl rfl rfl <|
            q_appm (xs := x1.2.2.2.1) (ys := ([gSetting.mk (at' ([([97] : List UInt8), ([98] : List UInt8), ([99] : List UInt8), ([100] : List UInt8), ([101] : List UInt8)] : List (List UInt8)) x1.2.2.2.2) (m_spec_l00Src_pick (m_spec_l00Src_one (gl00Src.mk x1.1 x1.2.1 x1.2.2.1) 2).2 1001).1] : List gSetting)) (f := gSetting.v) (l := 203) .n rfl (.ow (.t rfl) rfl (take_all (by simp only [len_map, put_len] <;> rfl)) (by simp only [len_map, put_len] <;> rfl)) (.ow (.t rfl) rfl (take_all (by simp only [len_map, put_len] <;> rfl)) (by simp only [len_map, put_len] <;> rfl)) si_34 zv_75 rfl (by (simp only [List.length_append, List.length_cons, List.length_nil, List.length_replicate, put_len] at * <;> omega)) rfl rfl <|
            q_assign .n (.t rfl) rfl <|
            Lex.nil) (by kernel_rfl) ?_
        refine run_endB ?_
        refine run_region (q_move .n (.t rfl) rfl <|
            q_add .n (.t rfl) (.c rfl) (fun _ => by omega) rfl <|
            q_assign .n (.t rfl) rfl <|
            Lex.nil) ?_
        exact run_again ((m_spec_l00Src_pick (m_spec_l00Src_one (gl00Src.mk x1.1 x1.2.1 x1.2.2.1) 2).2 1001).2.code, (m_spec_l00Src_pick (m_spec_l00Src_one (gl00Src.mk x1.1 x1.2.1 x1.2.2.1) 2).2 1001).2.at_, (m_spec_l00Src_pick (m_spec_l00Src_one (gl00Src.mk x1.1 x1.2.1 x1.2.2.1) 2).2 1001).2.seed, x1.2.2.2.1 ++ ([gSetting.mk (at' ([([97] : List UInt8), ([98] : List UInt8), ([99] : List UInt8), ([100] : List UInt8), ([101] : List UInt8)] : List (List UInt8)) x1.2.2.2.2) (m_spec_l00Src_pick (m_spec_l00Src_one (gl00Src.mk x1.1 x1.2.1 x1.2.2.1) 2).2 1001).1] : List gSetting), x1.2.2.2.2 + 1) ⟨by (simp only [List.length_append, List.length_cons, List.length_nil, List.length_replicate, put_len] at * <;> omega), by assumption, by (simp only [List.length_append, List.length_cons, List.length_nil, List.length_replicate, put_len] at * <;> omega), by (try dsimp only); (with_reducible (first | apply Lim.mono | apply Lim.out | apply LimA.mono)); (repeat (with_reducible (first | assumption | apply Lim.one | apply Lim.pick | apply Lim.bif1 | apply Lim.text | apply Lim.dstate | apply Lim.chg | apply Lim.from | apply Lim.mk))); omega, by (simp only [List.length_append, List.length_cons, List.length_nil, List.length_replicate, put_len] at * <;> omega)⟩ (by (simp only [List.length_append, List.length_cons, List.length_nil, List.length_replicate, put_len] at * <;> omega)) (sub_of [(201, 203)] ⟨rfl, rfl, rfl, rfl, trivial⟩ ⟨rfl, rfl, rfl, trivial⟩ rfl)
      · try simp only [Bool.and_eq_true, Bool.or_eq_true, Bool.not_eq_true', Bool.and_eq_false_iff, Bool.or_eq_false_iff, Bool.not_eq_false', decide_eq_true_eq, decide_eq_false_iff_not, beq_iff_eq, bne_iff_ne, beq_eq_false_iff_ne, bne_eq_false_iff_eq, Bool.true_and, ne_eq, Decidable.not_not, Int.not_lt, Int.not_le, Nat.not_lt, Nat.not_le, strB_nil, strB_nil', strB_nnil, strB_nnil'] at h4
        refine run_skip ?_
        refine run_endB ?_
        refine run_region (q_move .n (.t rfl) rfl <|
            q_add .n (.t rfl) (.c rfl) (fun _ => by omega) rfl <|
            q_assign .n (.t rfl) rfl <|
            Lex.nil) ?_
        exact run_again ((m_spec_l00Src_one (gl00Src.mk x1.1 x1.2.1 x1.2.2.1) 2).2.code, (m_spec_l00Src_one (gl00Src.mk x1.1 x1.2.1 x1.2.2.1) 2).2.at_, (m_spec_l00Src_one (gl00Src.mk x1.1 x1.2.1 x1.2.2.1) 2).2.seed, x1.2.2.2.1, x1.2.2.2.2 + 1) ⟨by (simp only [List.length_append, List.length_cons, List.length_nil, List.length_replicate, put_len] at * <;> omega), by assumption, by (simp only [List.length_append, List.length_cons, List.length_nil, List.length_replicate, put_len] at * <;> omega), by (try dsimp only); (with_reducible (first | apply Lim.mono | apply Lim.out | apply LimA.mono)); (repeat (with_reducible (first | assumption | apply Lim.one | apply Lim.pick | apply Lim.bif1 | apply Lim.text | apply Lim.dstate | apply Lim.chg | apply Lim.from | apply Lim.mk))); omega, by (simp only [List.length_append, List.length_cons, List.length_nil, List.length_replicate, put_len] at * <;> omega)⟩ (by (simp only [List.length_append, List.length_cons, List.length_nil, List.length_replicate, put_len] at * <;> omega)) (sub_of [] ⟨rfl, rfl, rfl, rfl, trivial⟩ ⟨rfl, rfl, rfl, trivial⟩ rfl)
    · try simp only [Bool.and_eq_true, Bool.or_eq_true, Bool.not_eq_true', Bool.and_eq_false_iff, Bool.or_eq_false_iff, Bool.not_eq_false', decide_eq_true_eq, decide_eq_false_iff_not, beq_iff_eq, bne_iff_ne, beq_eq_false_iff_ne, bne_eq_false_iff_eq, Bool.true_and, ne_eq, Decidable.not_not, Int.not_lt, Int.not_le, Nat.not_lt, Nat.not_le, strB_nil, strB_nil', strB_nnil, strB_nnil'] at h3
      refine run_exit rfl ?_
      exact run_cont hk1 (x1.1, x1.2.1, x1.2.2.1, x1.2.2.2.1, x1.2.2.2.2) ⟨by omega, by omega, by omega, by (try dsimp only); (with_reducible (first | apply Lim.mono | apply Lim.out | apply LimA.mono)); (repeat (with_reducible (first | assumption | apply Lim.one | apply Lim.pick | apply Lim.bif1 | apply Lim.text | apply Lim.dstate | apply Lim.chg | apply Lim.from | apply Lim.mk))); omega, by omega, by omega⟩ (sub_of [] ⟨rfl, trivial⟩ ⟨rfl, rfl, trivial⟩ rfl)

/-! ### spec_l27At -/
theorem c_spec_l27At (list : List gSetting) (name : List UInt8) : Con Tryd.prog 77 [.sl 2 (list.map gSetting.v), .str name] [] (.int .i64 (m_spec_l27At list name)) ([]) := by
  refine con_intro (out := fun r : Int => ((.int .i64 r : V), ([] : List (Nat × Option O)))) (r := (m_spec_l27At list name)) Tryd.func77 rfl Tryd.ntmps77 rfl ?_
  refine run_fact (t := 0) rfl fun hl => ?_
  have l1 := hl; clear hl; simp only [List.length_map] at l1
  refine run_seq ?_
  refine run_region (q_assign .n (.c rfl) rfl <|
      Lex.nil) ?_
  refine run_seq ?_
  refine run_seq ?_
  refine run_region (q_assign .n (.c rfl) rfl <|
      Lex.nil) ?_
  refine run_block ?_
  refine run_LOOP (m_spec_l27At_b1 list name) _ _ _ rfl (fun (x1 : Int) => 0 ≤ x1 ∧ x1 ≤ (list.length : Int)) (fun x1 => 0 ≤ x1 ∧ x1 ≤ (list.length : Int) ∧ (list.length : Int) ≤ x1) (fun x1 => ((list.length : Int) - x1 : Int).toNat) (fun x1 => ⟨[(0, some (true, .sl 2 (list.map gSetting.v))), (1, some (true, .str name)), (5, some (true, .int .i64 x1))], []⟩) (fun x1 => ⟨[], []⟩) ⟨by omega, by omega⟩ (by omega) (sub_of [] ⟨rfl, rfl, rfl, trivial⟩ trivial rfl) ?_ ?_
  · intro x1 i6
    obtain ⟨e7, e8, e9⟩ := i6
    try dsimp only at *
    refine run_seq ?_
    refine run_region (q_assign .n (.c rfl) rfl <|
        Lex.nil) ?_
    exact run_ret [] (.cons (.t rfl rfl) .nil) rfl trivial rfl
  · intro rec1 k1 hk2 x1 i3
    obtain ⟨e10, e11⟩ := i3
    try dsimp only at *
    refine run_seq ?_
    refine run_seq ?_
    refine run_region (q_move .n (.t rfl) rfl <|
        q_move .n (.t rfl) rfl <|
        q_len .n (.t rfl) rfl len_map ss_34 rfl <|
        q_int .n (.t rfl) (.t rfl) rfl rfl <|
        Lex.nil) ?_
    refine run_cond (.t rfl) rfl (fun h4 => ?_) (fun h4 => ?_)
    · try simp only [Bool.and_eq_true, Bool.or_eq_true, Bool.not_eq_true', Bool.and_eq_false_iff, Bool.or_eq_false_iff, Bool.not_eq_false', decide_eq_true_eq, decide_eq_false_iff_not, beq_iff_eq, bne_iff_ne, beq_eq_false_iff_ne, bne_eq_false_iff_eq, Bool.true_and, ne_eq, Decidable.not_not, Int.not_lt, Int.not_le, Nat.not_lt, Nat.not_le, strB_nil, strB_nil', strB_nnil, strB_nnil'] at h4
      refine run_skip ?_
      refine run_seq ?_
      refine run_block ?_
      refine run_seq ?_
      refine run_region (q_move .n (.t rfl) rfl <|
          q_move .n (.t rfl) rfl <|
          q_idx_rm .n (.t rfl) (.t rfl) sl_34 (fun _ => by omega) rfl <|
          q_fld_ro .n (.t rfl) fo_75_0 rfl <|
          q_ld1_ro .n (.t rfl) rfl ic_9 rfl <|
          q_move .n (.t rfl) rfl <|
          q_strcmp .n (.t rfl) (.t rfl) rfl rfl <|
          Lex.nil) ?_
      refine run_cond (.t rfl) rfl (fun h5 => ?_) (fun h5 => ?_)
      · try simp only [Bool.and_eq_true, Bool.or_eq_true, Bool.not_eq_true', Bool.and_eq_false_iff, Bool.or_eq_false_iff, Bool.not_eq_false', decide_eq_true_eq, decide_eq_false_iff_not, beq_iff_eq, bne_iff_ne, beq_eq_false_iff_ne, bne_eq_false_iff_eq, Bool.true_and, ne_eq, Decidable.not_not, Int.not_lt, Int.not_le, Nat.not_lt, Nat.not_le, strB_nil, strB_nil', strB_nnil, strB_nnil'] at h5
        refine run_seq ?_
        refine run_region (q_move .n (.t rfl) rfl <|
            q_assign .n (.t rfl) rfl <|
            Lex.nil) ?_
        exact run_ret [] (.cons (.t rfl rfl) .nil) rfl trivial rfl
      · try simp only [Bool.and_eq_true, Bool.or_eq_true, Bool.not_eq_true', Bool.and_eq_false_iff, Bool.or_eq_false_iff, Bool.not_eq_false', decide_eq_true_eq, decide_eq_false_iff_not, beq_iff_eq, bne_iff_ne, beq_eq_false_iff_ne, bne_eq_false_iff_eq, Bool.true_and, ne_eq, Decidable.not_not, Int.not_lt, Int.not_le, Nat.not_lt, Nat.not_le, strB_nil, strB_nil', strB_nnil, strB_nnil'] at h5
        refine run_skip ?_
        refine run_endB ?_
        refine run_region (q_move .n (.t rfl) rfl <|
            q_add .n (.t rfl) (.c rfl) (fun _ => by omega) rfl <|
            q_assign .n (.t rfl) rfl <|
            Lex.nil) ?_
        exact run_again (x1 + 1) ⟨by omega, by omega⟩ (by omega) (sub_of [] ⟨rfl, rfl, rfl, trivial⟩ trivial rfl)
    · try simp only [Bool.and_eq_true, Bool.or_eq_true, Bool.not_eq_true', Bool.and_eq_false_iff, Bool.or_eq_false_iff, Bool.not_eq_false', decide_eq_true_eq, decide_eq_false_iff_not, beq_iff_eq, bne_iff_ne, beq_eq_false_iff_ne, bne_eq_false_iff_eq, Bool.true_and, ne_eq, Decidable.not_not, Int.not_lt, Int.not_le, Nat.not_lt, Nat.not_le, strB_nil, strB_nil', strB_nnil, strB_nnil'] at h4
      refine run_exit rfl ?_
      exact run_cont hk2 x1 ⟨by omega, by omega, by omega⟩ (sub_of [] trivial trivial rfl)

/-! ### spec_l27Set -/
theorem c_spec_l27Set (list : List gSetting) (e : gSetting) (hp1 : list.length ≤ 1000) : Con Tryd.prog 78 [.sl 2 (list.map gSetting.v), .st [.str e.Name, .int .i64 e.Value]] [] (.os 100 (m_spec_l27Set list e).length) ([(100, some (.row 75 2 ((m_spec_l27Set list e).map gSetting.v)))]) := by
  refine con_intro (out := fun r : (List gSetting) => ((.os 100 r.length : V), ([(100, some (.row 75 2 (r.map gSetting.v)))] : List (Nat × Option O)))) (r := (m_spec_l27Set list e)) Tryd.func78 rfl Tryd.ntmps78 rfl ?_
  refine run_fact (t := 0) rfl fun hl => ?_
  have l1 := hl; clear hl; simp only [List.length_map] at l1
  refine run_seq ?_
  refine run_region (q_box (l := 200) .n rfl (.t rfl) rfl rfl rfl rfl <|
      q_assign .n (.c rfl) rfl <|
      Lex.nil) ?_
  refine run_seq ?_
  refine run_region (q_bslicem ([] : List gSetting) (f := gSetting.v) (l := 201) .n rfl rfl .nil rfl si_34 zv_75 rfl rfl rfl <|
      q_assign .n (.t rfl) rfl <|
      Lex.nil) ?_
  refine run_seq ?_
  refine run_region (q_assign .n (.c rfl) rfl <|
      Lex.nil) ?_
  refine run_seq ?_
  refine run_seq ?_
  refine run_region (q_assign .n (.c rfl) rfl <|
      Lex.nil) ?_
  refine run_block ?_
  refine run_LOOP (m_spec_l27Set_b1 list e) _ _ _ rfl (fun (x1 : (List gSetting) × Bool × Int) => 0 ≤ x1.2.2 ∧ x1.2.2 ≤ (list.length : Int) ∧ (x1.1.length : Int) ≤ 2 * x1.2.2) (fun x1 => 0 ≤ x1.2.2 ∧ x1.2.2 ≤ (list.length : Int) ∧ (x1.1.length : Int) ≤ 2 * x1.2.2 ∧ (list.length : Int) ≤ x1.2.2) (fun x1 => ((list.length : Int) - x1.2.2 : Int).toNat) (fun x1 => ⟨[(0, some (true, .sl 2 (list.map gSetting.v))), (3, some (true, .op 200 0 0 0)), (5, some (true, .os 201 x1.1.length)), (6, some (true, .bool x1.2.1)), (7, some (true, .int .i64 x1.2.2))], [(200, some (.box 75 [.str e.Name, .int .i64 e.Value])), (201, some (.row 75 2 (x1.1.map gSetting.v)))]⟩) (fun x1 => ⟨[(3, some (true, .op 200 0 0 0)), (5, some (true, .os 201 x1.1.length)), (6, some (true, .bool x1.2.1))], [(200, some (.box 75 [.str e.Name, .int .i64 e.Value])), (201, some (.row 75 2 (x1.1.map gSetting.v)))]⟩) ⟨by (simp only [List.length_append, List.length_cons, List.length_nil, List.length_replicate, put_len] at * <;> omega), by (simp only [List.length_append, List.length_cons, List.length_nil, List.length_replicate, put_len] at * <;> omega), by (simp only [List.length_append, List.length_cons, List.length_nil, List.length_replicate, put_len] at * <;> omega)⟩ (by (simp only [List.length_append, List.length_cons, List.length_nil, List.length_replicate, put_len] at * <;> omega)) (sub_of [] ⟨rfl, rfl, rfl, rfl, rfl, trivial⟩ ⟨rfl, rfl, trivial⟩ rfl) ?_ ?_
  · intro x1 i12
    obtain ⟨e14, e15, e16, e17⟩ := i12
    try dsimp only at *
    refine run_seq ?_
    refine run_seq ?_
    refine run_region (q_move .n (.t rfl) rfl <|
        q_not .n (.t rfl) rfl <|
        Lex.nil) ?_
    refine run_cond (.t rfl) rfl (fun h13 => ?_) (fun h13 => ?_)
    · try simp only [Bool.and_eq_true, Bool.or_eq_true, Bool.not_eq_true', Bool.and_eq_false_iff, Bool.or_eq_false_iff, Bool.not_eq_false', decide_eq_true_eq, decide_eq_false_iff_not, beq_iff_eq, bne_iff_ne, beq_eq_false_iff_ne, bne_eq_false_iff_eq, Bool.true_and, ne_eq, Decidable.not_not, Int.not_lt, Int.not_le, Nat.not_lt, Nat.not_le, strB_nil, strB_nil', strB_nnil, strB_nnil'] at h13
      refine run_region (q_move .n (.t rfl) rfl <|
          q_ldN_ow .n (.t rfl) rfl (.inr rfl) ag_75 (fun _ => rfl) rfl rfl <|
          q_bslicem ([e] : List gSetting) (f := gSetting.v) (l := 206) .n rfl rfl (.cons (.t rfl) .nil) rfl si_34 zv_75 rfl rfl rfl <|
          q_appm (xs := x1.1) (ys := ([e] : List gSetting)) (f := gSetting.v) (l := 207) .n rfl (.ow (.t rfl) rfl (take_all (by simp only [len_map, put_len] <;> rfl)) (by simp only [len_map, put_len] <;> rfl)) (.ow (.t rfl) rfl (take_all (by simp only [len_map, put_len] <;> rfl)) (by simp only [len_map, put_len] <;> rfl)) si_34 zv_75 rfl (by (simp only [List.length_append, List.length_cons, List.length_nil, List.length_replicate, put_len] at * <;> omega)) rfl rfl <|
          q_assign .n (.t rfl) rfl <|
          Lex.nil) ?_
      refine run_seq ?_
      refine run_region (q_move .n (.t rfl) rfl <|
          q_assign .n (.t rfl) rfl <|
          Lex.nil) ?_
      exact run_ret [(100, 207)] (.cons (.t rfl rfl) .nil) (by first | rfl | (simp only [put_len]; rfl)) ⟨rfl, trivial⟩ rfl
    · try simp only [Bool.and_eq_true, Bool.or_eq_true, Bool.not_eq_true', Bool.and_eq_false_iff, Bool.or_eq_false_iff, Bool.not_eq_false', decide_eq_true_eq, decide_eq_false_iff_not, beq_iff_eq, bne_iff_ne, beq_eq_false_iff_ne, bne_eq_false_iff_eq, Bool.true_and, ne_eq, Decidable.not_not, Int.not_lt, Int.not_le, Nat.not_lt, Nat.not_le, strB_nil, strB_nil', strB_nnil, strB_nnil'] at h13
      refine run_skip ?_
      refine run_seq ?_
      refine run_region (q_move .n (.t rfl) rfl <|
          q_assign .n (.t rfl) rfl <|
          Lex.nil) ?_
      exact run_ret [(100, 201)] (.cons (.t rfl rfl) .nil) (by first | rfl | (simp only [put_len]; rfl)) ⟨rfl, trivial⟩ rfl
  · intro rec1 k1 hk2 x1 i3
    obtain ⟨e18, e19, e20⟩ := i3
    try dsimp only at *
    refine run_seq ?_
    refine run_seq ?_
    refine run_region (q_move .n (.t rfl) rfl <|
        q_move .n (.t rfl) rfl <|
        q_len .n (.t rfl) rfl len_map ss_34 rfl <|
        q_int .n (.t rfl) (.t rfl) rfl rfl <|
        Lex.nil) ?_
    refine run_cond (.t rfl) rfl (fun h4 => ?_) (fun h4 => ?_)
    · try simp only [Bool.and_eq_true, Bool.or_eq_true, Bool.not_eq_true', Bool.and_eq_false_iff, Bool.or_eq_false_iff, Bool.not_eq_false', decide_eq_true_eq, decide_eq_false_iff_not, beq_iff_eq, bne_iff_ne, beq_eq_false_iff_ne, bne_eq_false_iff_eq, Bool.true_and, ne_eq, Decidable.not_not, Int.not_lt, Int.not_le, Nat.not_lt, Nat.not_le, strB_nil, strB_nil', strB_nnil, strB_nnil'] at h4
      refine run_skip ?_
      refine run_seq ?_
      refine run_block ?_
      refine run_seq ?_
      refine run_seq ?_
      refine run_draw fmo (q_move .n (.t rfl) rfl <|
          q_not .n (.t rfl) rfl <|
          q_move .n (.t rfl) rfl <|
          q_move (.t rfl rfl) (.t rfl) rfl <|
          q_move (.t rfl rfl) (.t rfl) rfl <|
          q_idx_rm (.t rfl rfl) (.u rfl id) (.u rfl id) sl_34 (fun hg => by simp only [Bool.and_eq_true, Bool.or_eq_true, Bool.not_eq_true', Bool.and_eq_false_iff, Bool.or_eq_false_iff, Bool.not_eq_false', decide_eq_true_eq, decide_eq_false_iff_not, beq_iff_eq, bne_iff_ne, beq_eq_false_iff_ne, bne_eq_false_iff_eq, Bool.true_and, ne_eq, Decidable.not_not, Int.not_lt, Int.not_le, Nat.not_lt, Nat.not_le, strB_nil, strB_nil', strB_nnil, strB_nnil'] at hg; omega) rfl <|
          q_fld_ro (.t rfl rfl) (.u rfl id) fo_75_0 rfl <|
          q_ld1_ro (.t rfl rfl) (.u rfl id) rfl ic_9 rfl <|
          q_fld_ow (.t rfl rfl) (.t rfl) fo_75_0 rfl <|
          q_ld1_ow (.t rfl rfl) (.u rfl id) rfl (.inr rfl) (fun _ => rfl) rfl ic_9 rfl <|
          q_strcmp (.t rfl rfl) (.u rfl id) (.u rfl id) rfl rfl <|
          q_and .n (.t rfl) (.u rfl id) rfl <|
          Lex.nil) (by kernel_rfl) ?_
      refine run_join _ _ rfl (fun v5 : (List gSetting) × Bool => (v5.1.length : Int) ≤ (x1.1.length : Int) + 1) (fun v5 => ⟨[(0, some (true, .sl 2 (list.map gSetting.v))), (3, some (true, .op 200 0 0 0)), (5, some (true, .os 203 v5.1.length)), (6, some (true, .bool v5.2)), (7, some (true, .int .i64 x1.2.2))], [(200, some (.box 75 [.str e.Name, .int .i64 e.Value])), (203, some (.row 75 2 (v5.1.map gSetting.v)))]⟩) (fun v5 hv10 => ?_) (fun j6 hj7 => ?_)
      · have e11 := hv10
        refine run_seq ?_
        refine run_draw fmo (q_move .n (.t rfl) rfl <|
            q_move .n (.t rfl) rfl <|
            q_idx_rm .n (.t rfl) (.t rfl) sl_34 (fun _ => by omega) rfl <|
            q_fld_ro .n (.t rfl) fo_75_0 rfl <|
            q_ld1_ro .n (.t rfl) rfl ic_9 rfl <|
            q_fld_ow .n (.t rfl) fo_75_0 rfl <|
            q_ld1_ow .n (.t rfl) rfl (.inr rfl) (fun _ => rfl) rfl ic_9 rfl <|
            q_strcmp .n (.t rfl) (.t rfl) rfl rfl <|
            Lex.nil) (by kernel_rfl) ?_
        refine run_cond (.t rfl) rfl (fun h9 => ?_) (fun h9 => ?_)
        · try simp only [Bool.and_eq_true, Bool.or_eq_true, Bool.not_eq_true', Bool.and_eq_false_iff, Bool.or_eq_false_iff, Bool.not_eq_false', decide_eq_true_eq, decide_eq_false_iff_not, beq_iff_eq, bne_iff_ne, beq_eq_false_iff_ne, bne_eq_false_iff_eq, Bool.true_and, ne_eq, Decidable.not_not, Int.not_lt, Int.not_le, Nat.not_lt, Nat.not_le, strB_nil, strB_nil', strB_nnil, strB_nnil'] at h9
          refine run_region (q_move .n (.t rfl) rfl <|
              q_move .n (.t rfl) rfl <|
              q_move .n (.t rfl) rfl <|
              q_idx_rm .n (.t rfl) (.t rfl) sl_34 (fun _ => by omega) rfl <|
              q_ldN_ro .n (.t rfl) ag_75 rfl rfl rfl <|
              q_bslicem ([at' list x1.2.2] : List gSetting) (f := gSetting.v) (l := 204) .n rfl rfl (.cons (.t rfl) .nil) rfl si_34 zv_75 rfl rfl rfl <|
              q_appm (xs := v5.1) (ys := ([at' list x1.2.2] : List gSetting)) (f := gSetting.v) (l := 205) .n rfl (.ow (.t rfl) rfl (take_all (by simp only [len_map, put_len] <;> rfl)) (by simp only [len_map, put_len] <;> rfl)) (.ow (.t rfl) rfl (take_all (by simp only [len_map, put_len] <;> rfl)) (by simp only [len_map, put_len] <;> rfl)) si_34 zv_75 rfl (by (simp only [List.length_append, List.length_cons, List.length_nil, List.length_replicate, put_len] at * <;> omega)) rfl rfl <|
              q_assign .n (.t rfl) rfl <|
              Lex.nil) ?_
          refine run_endB ?_
          refine run_region (q_move .n (.t rfl) rfl <|
              q_add .n (.t rfl) (.c rfl) (fun _ => by omega) rfl <|
              q_assign .n (.t rfl) rfl <|
              Lex.nil) ?_
          exact run_again (v5.1 ++ ([at' list x1.2.2] : List gSetting), v5.2, x1.2.2 + 1) ⟨by (simp only [List.length_append, List.length_cons, List.length_nil, List.length_replicate, put_len] at * <;> omega), by assumption, by (simp only [List.length_append, List.length_cons, List.length_nil, List.length_replicate, put_len] at * <;> omega)⟩ (by (simp only [List.length_append, List.length_cons, List.length_nil, List.length_replicate, put_len] at * <;> omega)) (sub_of [(201, 205)] ⟨rfl, rfl, rfl, rfl, rfl, trivial⟩ ⟨rfl, rfl, trivial⟩ rfl)
        · try simp only [Bool.and_eq_true, Bool.or_eq_true, Bool.not_eq_true', Bool.and_eq_false_iff, Bool.or_eq_false_iff, Bool.not_eq_false', decide_eq_true_eq, decide_eq_false_iff_not, beq_iff_eq, bne_iff_ne, beq_eq_false_iff_ne, bne_eq_false_iff_eq, Bool.true_and, ne_eq, Decidable.not_not, Int.not_lt, Int.not_le, Nat.not_lt, Nat.not_le, strB_nil, strB_nil', strB_nnil, strB_nnil'] at h9
          refine run_skip ?_
          refine run_endB ?_
          refine run_region (q_move .n (.t rfl) rfl <|
              q_add .n (.t rfl) (.c rfl) (fun _ => by omega) rfl <|
              q_assign .n (.t rfl) rfl <|
              Lex.nil) ?_
          exact run_again (v5.1, v5.2, x1.2.2 + 1) ⟨by (simp only [List.length_append, List.length_cons, List.length_nil, List.length_replicate, put_len] at * <;> omega), by assumption, by (simp only [List.length_append, List.length_cons, List.length_nil, List.length_replicate, put_len] at * <;> omega)⟩ (by (simp only [List.length_append, List.length_cons, List.length_nil, List.length_replicate, put_len] at * <;> omega)) (sub_of [(201, 203)] ⟨rfl, rfl, rfl, rfl, rfl, trivial⟩ ⟨rfl, rfl, trivial⟩ rfl)
      · refine run_cond (.t rfl) rfl (fun h8 => ?_) (fun h8 => ?_)
        · try simp only [Bool.and_eq_true, Bool.or_eq_true, Bool.not_eq_true', Bool.and_eq_false_iff, Bool.or_eq_false_iff, Bool.not_eq_false', decide_eq_true_eq, decide_eq_false_iff_not, beq_iff_eq, bne_iff_ne, beq_eq_false_iff_ne, bne_eq_false_iff_eq, Bool.true_and, ne_eq, Decidable.not_not, Int.not_lt, Int.not_le, Nat.not_lt, Nat.not_le, strB_nil, strB_nil', strB_nnil, strB_nnil'] at h8
          refine run_seq ?_
          refine run_region (q_move .n (.t rfl) rfl <|
              q_ldN_ow .n (.t rfl) rfl (.inr rfl) ag_75 (fun _ => rfl) rfl rfl <|
              q_bslicem ([e] : List gSetting) (f := gSetting.v) (l := 202) .n rfl rfl (.cons (.t rfl) .nil) rfl si_34 zv_75 rfl rfl rfl <|
              q_appm (xs := x1.1) (ys := ([e] : List gSetting)) (f := gSetting.v) (l := 203) .n rfl (.ow (.t rfl) rfl (take_all (by simp only [len_map, put_len] <;> rfl)) (by simp only [len_map, put_len] <;> rfl)) (.ow (.t rfl) rfl (take_all (by simp only [len_map, put_len] <;> rfl)) (by simp only [len_map, put_len] <;> rfl)) si_34 zv_75 rfl (by (simp only [List.length_append, List.length_cons, List.length_nil, List.length_replicate, put_len] at * <;> omega)) rfl rfl <|
              q_assign .n (.t rfl) rfl <|
              Lex.nil) ?_
          refine run_region (q_assign .n (.c rfl) rfl <|
              Lex.nil) ?_
          exact run_cont hj7 (x1.1 ++ ([e] : List gSetting), true) (by (simp only [List.length_append, List.length_cons, List.length_nil, List.length_replicate, put_len] at * <;> omega)) (sub_of [] ⟨rfl, rfl, rfl, rfl, rfl, trivial⟩ ⟨rfl, rfl, trivial⟩ rfl)
        · try simp only [Bool.and_eq_true, Bool.or_eq_true, Bool.not_eq_true', Bool.and_eq_false_iff, Bool.or_eq_false_iff, Bool.not_eq_false', decide_eq_true_eq, decide_eq_false_iff_not, beq_iff_eq, bne_iff_ne, beq_eq_false_iff_ne, bne_eq_false_iff_eq, Bool.true_and, ne_eq, Decidable.not_not, Int.not_lt, Int.not_le, Nat.not_lt, Nat.not_le, strB_nil, strB_nil', strB_nnil, strB_nnil'] at h8
          refine run_skip ?_
          exact run_cont hj7 (x1.1, x1.2.1) (by (simp only [List.length_append, List.length_cons, List.length_nil, List.length_replicate, put_len] at * <;> omega)) (sub_of [(203, 201)] ⟨rfl, rfl, rfl, rfl, rfl, trivial⟩ ⟨rfl, rfl, trivial⟩ rfl)
    · try simp only [Bool.and_eq_true, Bool.or_eq_true, Bool.not_eq_true', Bool.and_eq_false_iff, Bool.or_eq_false_iff, Bool.not_eq_false', decide_eq_true_eq, decide_eq_false_iff_not, beq_iff_eq, bne_iff_ne, beq_eq_false_iff_ne, bne_eq_false_iff_eq, Bool.true_and, ne_eq, Decidable.not_not, Int.not_lt, Int.not_le, Nat.not_lt, Nat.not_le, strB_nil, strB_nil', strB_nnil, strB_nnil'] at h4
      refine run_exit rfl ?_
      exact run_cont hk2 (x1.1, x1.2.1, x1.2.2) ⟨by omega, by omega, by omega, by omega⟩ (sub_of [] ⟨rfl, rfl, rfl, trivial⟩ ⟨rfl, rfl, trivial⟩ rfl)

/-! ### spec_l27Changed -/
set_option maxRecDepth 100000 in
set_option maxHeartbeats 4000000 in
theorem c_spec_l27Changed (s_ : gl00Src) (list : List gSetting) (hp1 : Lim s_ 500000) (hp2 : DS list) : Con Tryd.prog 45 [.op 0 0 0 0, .sl 2 (list.map gSetting.v)] [(0, some (.box 102 [.sl 1 (s_.code.map (V.int .u8)), .int .i64 s_.at_, .int .u64 s_.seed]))] (.os 100 (m_spec_l27Changed s_ list).1.length) ([(100, some (.row 75 2 ((m_spec_l27Changed s_ list).1.map gSetting.v))), (0, some (.box 102 [.sl 1 ((m_spec_l27Changed s_ list).2.code.map (V.int .u8)), .int .i64 (m_spec_l27Changed s_ list).2.at_, .int .u64 (m_spec_l27Changed s_ list).2.seed]))]) := by
  refine con_intro (out := fun r : (List gSetting) × gl00Src => ((.os 100 r.1.length : V), ([(100, some (.row 75 2 (r.1.map gSetting.v))), (0, some (.box 102 [.sl 1 (r.2.code.map (V.int .u8)), .int .i64 r.2.at_, .int .u64 r.2.seed]))] : List (Nat × Option O)))) (r := (m_spec_l27Changed s_ list)) Tryd.func45 rfl Tryd.ntmps45 rfl ?_
  have hn0 := hp1.num (k := 4)
  have hn1 := hn0.2 (by omega)
  have hL := hp2.len
  refine run_fact (t := 1) rfl fun hl => ?_
  have l1 := hl; clear hl; simp only [List.length_map] at l1
  refine run_seq ?_
  refine run_region (q_assign .n (.c rfl) rfl <|
      Lex.nil) ?_
  refine run_seq ?_
  refine run_region (q_bslicem ([] : List gSetting) (f := gSetting.v) (l := 200) .n rfl rfl .nil rfl si_34 zv_75 rfl rfl rfl <|
      q_move .n (.t rfl) rfl <|
      q_appm (xs := ([] : List gSetting)) (ys := list) (f := gSetting.v) (l := 201) .n rfl (.ow (.t rfl) rfl (take_all (by simp only [len_map, put_len] <;> rfl)) (by simp only [len_map, put_len] <;> rfl)) (.ro (.t rfl)) si_34 zv_75 rfl (by (simp only [List.length_append, List.length_cons, List.length_nil, List.length_replicate, put_len] at * <;> omega)) rfl rfl <|
      q_assign .n (.t rfl) rfl <|
      Lex.nil) ?_
  refine run_seq ?_
  refine run_region (q_bslicem ([([97] : List UInt8), ([98] : List UInt8), ([99] : List UInt8), ([100] : List UInt8), ([101] : List UInt8), ([102] : List UInt8)] : List (List UInt8)) (f := V.str) (l := 202) .n rfl rfl (.cons (.c rfl) (.cons (.c rfl) (.cons (.c rfl) (.cons (.c rfl) (.cons (.c rfl) (.cons (.c rfl) .nil)))))) rfl si_105 zv_9 rfl rfl rfl <|
      q_assign .n (.t rfl) rfl <|
      Lex.nil) ?_
  refine run_seq ?_
  refine run_seq ?_
  refine run_region (q_move .n (.t rfl) rfl <|
      q_callM (full := false) [(0, 0)] [] .n rfl .f en_74 (.cons (.t rfl) (.cons (.c rfl) .nil)) (.cons (.b (.mutp rfl)) (.cons (.b (.a (.same rfl))) .nil)) (c_spec_l00Src_pick s_ 4 (by (try dsimp only); (with_reducible (first | apply Lim.mono | apply Lim.out | apply LimA.mono)); (repeat (with_reducible (first | assumption | apply Lim.one | apply Lim.pick | apply Lim.bif1 | apply Lim.text | apply Lim.dstate | apply Lim.chg | apply Lim.from | apply Lim.mk))); omega)) ⟨rfl, trivial⟩ rfl rfl (fun h => Bool.noConfusion h) (fun h => Bool.noConfusion h) rfl <|
      q_assign .n (.t rfl) rfl <|
      Lex.nil) ?_
  refine run_block ?_
  refine run_LOOP (m_spec_l27Changed_b1 s_ list) _ _ _ rfl (fun (x1 : (List Int) × Int × Int × (List gSetting) × Int) => x1.2.2.2.2 ≤ (m_spec_l00Src_pick s_ 4).1 ∧ LimA x1.1 x1.2.1 (500020 - 6 * x1.2.2.2.2) ∧ (0 ≤ x1.2.2.2.2 ∧ x1.2.2.2.2 ≤ 3) ∧ DS x1.2.2.2.1) (fun x1 => x1.2.2.2.2 ≤ (m_spec_l00Src_pick s_ 4).1 ∧ LimA x1.1 x1.2.1 (500020 - 6 * x1.2.2.2.2) ∧ (0 ≤ x1.2.2.2.2 ∧ x1.2.2.2.2 ≤ 3) ∧ DS x1.2.2.2.1) (fun x1 => x1.2.2.2.2.toNat) (fun x1 => ⟨[(0, some (true, .op 0 0 0 0)), (5, some (true, .os 201 x1.2.2.2.1.length)), (6, some (true, .os 202 ([([97] : List UInt8), ([98] : List UInt8), ([99] : List UInt8), ([100] : List UInt8), ([101] : List UInt8), ([102] : List UInt8)] : List (List UInt8)).length)), (7, some (true, .int .i64 x1.2.2.2.2))], [(0, some (.box 102 [.sl 1 (x1.1.map (V.int .u8)), .int .i64 x1.2.1, .int .u64 x1.2.2.1])), (201, some (.row 75 2 (x1.2.2.2.1.map gSetting.v))), (202, some (.row 9 1 (([([97] : List UInt8), ([98] : List UInt8), ([99] : List UInt8), ([100] : List UInt8), ([101] : List UInt8), ([102] : List UInt8)] : List (List UInt8)).map V.str)))]⟩) (fun x1 => ⟨[(5, some (true, .os 201 x1.2.2.2.1.length))], [(0, some (.box 102 [.sl 1 (x1.1.map (V.int .u8)), .int .i64 x1.2.1, .int .u64 x1.2.2.1])), (201, some (.row 75 2 (x1.2.2.2.1.map gSetting.v)))]⟩) ⟨by (simp only [List.length_append, List.length_cons, List.length_nil, List.length_replicate, put_len] at * <;> omega), by (try dsimp only); (with_reducible (first | apply Lim.mono | apply Lim.out | apply LimA.mono)); (repeat (with_reducible (first | assumption | apply Lim.one | apply Lim.pick | apply Lim.bif1 | apply Lim.text | apply Lim.dstate | apply Lim.chg | apply Lim.from | apply Lim.mk))); omega, by (simp only [List.length_append, List.length_cons, List.length_nil, List.length_replicate, put_len] at * <;> omega), by assumption⟩ (by (simp only [List.length_append, List.length_cons, List.length_nil, List.length_replicate, put_len] at * <;> omega)) (sub_of [] ⟨rfl, rfl, rfl, rfl, trivial⟩ ⟨rfl, rfl, rfl, trivial⟩ rfl) ?_ ?_
  · intro x1 i6
    obtain ⟨e7, e8, e9, e10⟩ := i6
    try dsimp only at *
    refine run_seq ?_
    refine run_region (q_move .n (.t rfl) rfl <|
        q_assign .n (.t rfl) rfl <|
        Lex.nil) ?_
    exact run_ret [(100, 201)] (.cons (.t rfl rfl) .nil) (by first | rfl | (simp only [put_len]; rfl)) ⟨rfl, rfl, trivial⟩ rfl
  · intro rec1 k1 hk2 x1 i3
    obtain ⟨e11, e12, e13, e14⟩ := i3
    try dsimp only at *
    refine run_seq ?_
    refine run_seq ?_
    refine run_region (q_move .n (.t rfl) rfl <|
        q_int .n (.t rfl) (.c rfl) rfl rfl <|
        Lex.nil) ?_
    refine run_cond (.t rfl) rfl (fun h4 => ?_) (fun h4 => ?_)
    · try simp only [Bool.and_eq_true, Bool.or_eq_true, Bool.not_eq_true', Bool.and_eq_false_iff, Bool.or_eq_false_iff, Bool.not_eq_false', decide_eq_true_eq, decide_eq_false_iff_not, beq_iff_eq, bne_iff_ne, beq_eq_false_iff_ne, bne_eq_false_iff_eq, Bool.true_and, ne_eq, Decidable.not_not, Int.not_lt, Int.not_le, Nat.not_lt, Nat.not_le, strB_nil, strB_nil', strB_nnil, strB_nnil'] at h4
      refine run_skip ?_
      refine run_seq ?_
      refine run_block ?_
      refine run_seq ?_
      refine run_region (q_move .n (.t rfl) rfl <|
          q_move .n (.t rfl) rfl <|
          q_callM (full := false) [(0, 0)] [] .n rfl .f en_74 (.cons (.t rfl) (.cons (.c rfl) .nil)) (.cons (.b (.mutp rfl)) (.cons (.b (.a (.same rfl))) .nil)) (c_spec_l00Src_pick (gl00Src.mk x1.1 x1.2.1 x1.2.2.1) 6 (by (try dsimp only); (with_reducible (first | apply Lim.mono | apply Lim.out | apply LimA.mono)); (repeat (with_reducible (first | assumption | apply Lim.one | apply Lim.pick | apply Lim.bif1 | apply Lim.text | apply Lim.dstate | apply Lim.chg | apply Lim.from | apply Lim.mk))); omega)) ⟨rfl, trivial⟩ rfl rfl (fun h => Bool.noConfusion h) (fun h => Bool.noConfusion h) rfl <|
          q_idx_ow .n (.t rfl) (.t rfl) sl_105 (fun _ => by (exact chg_idx (by assumption))) rfl <|
          q_ld1_row .n (.t rfl) rfl (fun _ => by (exact chg_idx (by assumption))) rfl rfl rfl ic_9 rfl <|
          q_assign .n (.t rfl) rfl <|
          Lex.nil) ?_
      refine run_seq ?_
      refine run_region (q_move .n (.t rfl) rfl <|
          q_move .n (.t rfl) rfl <|
          q_call0 (full := true) .n .f en_77 (.cons (.t rfl) (.cons (.t rfl) .nil)) (.cons (.b (.a (.own rfl rfl rfl (take_all (by simp only [len_map, put_len] <;> rfl)) (by simp only [len_map, put_len] <;> rfl)))) (.cons (.b (.a (.same rfl))) .nil)) (fun hg => c_spec_l27At x1.2.2.2.1 (at' ([([97] : List UInt8), ([98] : List UInt8), ([99] : List UInt8), ([100] : List UInt8), ([101] : List UInt8), ([102] : List UInt8)] : List (List UInt8)) (m_spec_l00Src_pick (gl00Src.mk x1.1 x1.2.1 x1.2.2.1) 6).1)) rfl (fun _ => rfl) rfl <|
          q_assign .n (.t rfl) rfl <|
          Lex.nil) ?_
      refine run_seq ?_
      refine run_region (q_move .n (.t rfl) rfl <|
          q_int .n (.t rfl) (.c rfl) rfl rfl <|
          q_move .n (.t rfl) rfl <|
          q_move (.t rfl rfl) (.t rfl) rfl <|
          q_callGM (full := false) (m0 := 0) (L := 0) (v := .bool (m_spec_l00Src_one (m_spec_l00Src_pick (gl00Src.mk x1.1 x1.2.1 x1.2.2.1) 6).2 2).1) (o' := .box 102 [.sl 1 ((bif (decide (0 ≤ (m_spec_l27At x1.2.2.2.1 (at' ([([97] : List UInt8), ([98] : List UInt8), ([99] : List UInt8), ([100] : List UInt8), ([101] : List UInt8), ([102] : List UInt8)] : List (List UInt8)) (m_spec_l00Src_pick (gl00Src.mk x1.1 x1.2.1 x1.2.2.1) 6).1)))) then (m_spec_l00Src_one (m_spec_l00Src_pick (gl00Src.mk x1.1 x1.2.1 x1.2.2.1) 6).2 2).2 else (m_spec_l00Src_pick (gl00Src.mk x1.1 x1.2.1 x1.2.2.1) 6).2).code.map (V.int .u8)), .int .i64 (bif (decide (0 ≤ (m_spec_l27At x1.2.2.2.1 (at' ([([97] : List UInt8), ([98] : List UInt8), ([99] : List UInt8), ([100] : List UInt8), ([101] : List UInt8), ([102] : List UInt8)] : List (List UInt8)) (m_spec_l00Src_pick (gl00Src.mk x1.1 x1.2.1 x1.2.2.1) 6).1)))) then (m_spec_l00Src_one (m_spec_l00Src_pick (gl00Src.mk x1.1 x1.2.1 x1.2.2.1) 6).2 2).2 else (m_spec_l00Src_pick (gl00Src.mk x1.1 x1.2.1 x1.2.2.1) 6).2).at_, .int .u64 (bif (decide (0 ≤ (m_spec_l27At x1.2.2.2.1 (at' ([([97] : List UInt8), ([98] : List UInt8), ([99] : List UInt8), ([100] : List UInt8), ([101] : List UInt8), ([102] : List UInt8)] : List (List UInt8)) (m_spec_l00Src_pick (gl00Src.mk x1.1 x1.2.1 x1.2.2.1) 6).1)))) then (m_spec_l00Src_one (m_spec_l00Src_pick (gl00Src.mk x1.1 x1.2.1 x1.2.2.1) 6).2 2).2 else (m_spec_l00Src_pick (gl00Src.mk x1.1 x1.2.1 x1.2.2.1) 6).2).seed]) (.t rfl rfl) (fun hg => .f) en_76 (fun hg => (.cons (.u rfl (fun _ => id hg)) (.cons (.c rfl) .nil))) (.cons (.b (.mutp rfl)) (.cons (.b (.a (.same rfl))) .nil)) (fun hg => c_spec_l00Src_one (m_spec_l00Src_pick (gl00Src.mk x1.1 x1.2.1 x1.2.2.1) 6).2 2 (by (try dsimp only); (with_reducible (first | apply Lim.mono | apply Lim.out | apply LimA.mono)); (repeat (with_reducible (first | assumption | apply Lim.one | apply Lim.pick | apply Lim.bif1 | apply Lim.text | apply Lim.dstate | apply Lim.chg | apply Lim.from | apply Lim.mk))); omega)) ⟨rfl, trivial⟩ rfl (fun h => Bool.noConfusion h) (fun h => Bool.noConfusion h) rfl (fun hg => by simp only [Bool.true_and] at hg; rw [hg]; exact ⟨rfl, rfl⟩) (fun hg => by simp only [Bool.true_and] at hg; rw [hg]; rfl) <|
          q_and .n (.t rfl) (.u rfl id) rfl <|
          Lex.nil) ?_
      refine run_cond (.t rfl) rfl (fun h5 => ?_) (fun h5 => ?_)
      · try simp only [Bool.and_eq_true, Bool.or_eq_true, Bool.not_eq_true', Bool.and_eq_false_iff, Bool.or_eq_false_iff, Bool.not_eq_false', decide_eq_true_eq, decide_eq_false_iff_not, beq_iff_eq, bne_iff_ne, beq_eq_false_iff_ne, bne_eq_false_iff_eq, Bool.true_and, ne_eq, Decidable.not_not, Int.not_lt, Int.not_le, Nat.not_lt, Nat.not_le, strB_nil, strB_nil', strB_nnil, strB_nnil'] at h5
        refine run_seq ?_
        refine run_region (q_bslicem ([] : List gSetting) (f := gSetting.v) (l := 203) .n rfl rfl .nil rfl si_34 zv_75 rfl rfl rfl <|
            q_move .n (.t rfl) rfl <|
            q_move .n (.t rfl) rfl <|
            q_cut_owm (xs := x1.2.2.2.1) (b := (m_spec_l27At x1.2.2.2.1 (at' ([([97] : List UInt8), ([98] : List UInt8), ([99] : List UInt8), ([100] : List UInt8), ([101] : List UInt8), ([102] : List UInt8)] : List (List UInt8)) (m_spec_l00Src_pick (gl00Src.mk x1.1 x1.2.1 x1.2.2.1) 6).1))) .n (.t rfl) (.s (.t rfl)) sl_34 (fun _ => by ((have hq := chg_cut (by assumption : DS x1.2.2.2.1) (by assumption); obtain ⟨hq1, hq2, hq3⟩ := hq; first | omega | (rw [hq2]; omega)))) rfl <|
            q_appm (xs := ([] : List gSetting)) (ys := pre' x1.2.2.2.1 (m_spec_l27At x1.2.2.2.1 (at' ([([97] : List UInt8), ([98] : List UInt8), ([99] : List UInt8), ([100] : List UInt8), ([101] : List UInt8), ([102] : List UInt8)] : List (List UInt8)) (m_spec_l00Src_pick (gl00Src.mk x1.1 x1.2.1 x1.2.2.1) 6).1))) (f := gSetting.v) (l := 204) .n rfl (.ow (.t rfl) rfl (take_all (by simp only [len_map, put_len] <;> rfl)) (by simp only [len_map, put_len] <;> rfl)) (.ow (.t rfl) rfl pre_map (by simp only [len_map, pre_len])) si_34 zv_75 rfl (by ((have hq := (chg_drop (by assumption : DS x1.2.2.2.1) (by assumption)).len; first | omega | (simp only [List.length_append] at hq ⊢; omega)))) rfl rfl <|
            q_assign .n (.t rfl) rfl <|
            Lex.nil) ?_
        refine run_region (q_move .n (.t rfl) rfl <|
            q_move .n (.t rfl) rfl <|
            q_move .n (.t rfl) rfl <|
            q_int .n (.t rfl) (.c rfl) rfl rfl <|
            q_cut_oss (x1.2.2.2.1.length : Int) .n (.t rfl) (.s (.t rfl)) .n sl_34 rfl (fun _ => by ((have hq := chg_cut (by assumption : DS x1.2.2.2.1) (by assumption); obtain ⟨hq1, hq2, hq3⟩ := hq; first | omega | (rw [hq2]; omega)))) rfl <|
            q_appm (xs := ([] : List gSetting) ++ (pre' x1.2.2.2.1 (m_spec_l27At x1.2.2.2.1 (at' ([([97] : List UInt8), ([98] : List UInt8), ([99] : List UInt8), ([100] : List UInt8), ([101] : List UInt8), ([102] : List UInt8)] : List (List UInt8)) (m_spec_l00Src_pick (gl00Src.mk x1.1 x1.2.1 x1.2.2.1) 6).1)))) (ys := cut' x1.2.2.2.1 (IntKind.wrap .i64 ((m_spec_l27At x1.2.2.2.1 (at' ([([97] : List UInt8), ([98] : List UInt8), ([99] : List UInt8), ([100] : List UInt8), ([101] : List UInt8), ([102] : List UInt8)] : List (List UInt8)) (m_spec_l00Src_pick (gl00Src.mk x1.1 x1.2.1 x1.2.2.1) 6).1)) + 1)) (x1.2.2.2.1.length : Int)) (f := gSetting.v) (l := 205) .n rfl (.ow (.t rfl) rfl (take_all (by simp only [len_map, put_len] <;> rfl)) (by simp only [len_map, put_len] <;> rfl)) (.ows (.t rfl) rfl cut_map (by simp only [cut', List.length_map, List.length_take, List.length_drop] <;> (omega))) si_34 zv_75 rfl (by ((have hq := (chg_drop (by assumption : DS x1.2.2.2.1) (by assumption)).len; first | omega | (simp only [List.length_append] at hq ⊢; omega)))) rfl rfl <|
            q_assign .n (.t rfl) rfl <|
            Lex.nil) ?_
        refine run_endB ?_
        refine run_region (q_move .n (.t rfl) rfl <|
            q_sub .n (.t rfl) (.c rfl) (fun _ => by omega) rfl <|
            q_assign .n (.t rfl) rfl <|
            Lex.nil) ?_
        exact run_again ((bif (decide (0 ≤ (m_spec_l27At x1.2.2.2.1 (at' ([([97] : List UInt8), ([98] : List UInt8), ([99] : List UInt8), ([100] : List UInt8), ([101] : List UInt8), ([102] : List UInt8)] : List (List UInt8)) (m_spec_l00Src_pick (gl00Src.mk x1.1 x1.2.1 x1.2.2.1) 6).1)))) then (m_spec_l00Src_one (m_spec_l00Src_pick (gl00Src.mk x1.1 x1.2.1 x1.2.2.1) 6).2 2).2 else (m_spec_l00Src_pick (gl00Src.mk x1.1 x1.2.1 x1.2.2.1) 6).2).code, (bif (decide (0 ≤ (m_spec_l27At x1.2.2.2.1 (at' ([([97] : List UInt8), ([98] : List UInt8), ([99] : List UInt8), ([100] : List UInt8), ([101] : List UInt8), ([102] : List UInt8)] : List (List UInt8)) (m_spec_l00Src_pick (gl00Src.mk x1.1 x1.2.1 x1.2.2.1) 6).1)))) then (m_spec_l00Src_one (m_spec_l00Src_pick (gl00Src.mk x1.1 x1.2.1 x1.2.2.1) 6).2 2).2 else (m_spec_l00Src_pick (gl00Src.mk x1.1 x1.2.1 x1.2.2.1) 6).2).at_, (bif (decide (0 ≤ (m_spec_l27At x1.2.2.2.1 (at' ([([97] : List UInt8), ([98] : List UInt8), ([99] : List UInt8), ([100] : List UInt8), ([101] : List UInt8), ([102] : List UInt8)] : List (List UInt8)) (m_spec_l00Src_pick (gl00Src.mk x1.1 x1.2.1 x1.2.2.1) 6).1)))) then (m_spec_l00Src_one (m_spec_l00Src_pick (gl00Src.mk x1.1 x1.2.1 x1.2.2.1) 6).2 2).2 else (m_spec_l00Src_pick (gl00Src.mk x1.1 x1.2.1 x1.2.2.1) 6).2).seed, (([] : List gSetting) ++ (pre' x1.2.2.2.1 (m_spec_l27At x1.2.2.2.1 (at' ([([97] : List UInt8), ([98] : List UInt8), ([99] : List UInt8), ([100] : List UInt8), ([101] : List UInt8), ([102] : List UInt8)] : List (List UInt8)) (m_spec_l00Src_pick (gl00Src.mk x1.1 x1.2.1 x1.2.2.1) 6).1)))) ++ (cut' x1.2.2.2.1 (IntKind.wrap .i64 ((m_spec_l27At x1.2.2.2.1 (at' ([([97] : List UInt8), ([98] : List UInt8), ([99] : List UInt8), ([100] : List UInt8), ([101] : List UInt8), ([102] : List UInt8)] : List (List UInt8)) (m_spec_l00Src_pick (gl00Src.mk x1.1 x1.2.1 x1.2.2.1) 6).1)) + 1)) (x1.2.2.2.1.length : Int)), x1.2.2.2.2 - 1) ⟨by (simp only [List.length_append, List.length_cons, List.length_nil, List.length_replicate, put_len] at * <;> omega), by (try dsimp only); (with_reducible (first | apply Lim.mono | apply Lim.out | apply LimA.mono)); (repeat (with_reducible (first | assumption | apply Lim.one | apply Lim.pick | apply Lim.bif1 | apply Lim.text | apply Lim.dstate | apply Lim.chg | apply Lim.from | apply Lim.mk))); omega, by (simp only [List.length_append, List.length_cons, List.length_nil, List.length_replicate, put_len] at * <;> omega), by (exact chg_drop (by assumption) (by assumption))⟩ (by (simp only [List.length_append, List.length_cons, List.length_nil, List.length_replicate, put_len] at * <;> omega)) (sub_of [(201, 205)] ⟨rfl, rfl, rfl, rfl, trivial⟩ ⟨rfl, rfl, rfl, trivial⟩ rfl)
      · try simp only [Bool.and_eq_true, Bool.or_eq_true, Bool.not_eq_true', Bool.and_eq_false_iff, Bool.or_eq_false_iff, Bool.not_eq_false', decide_eq_true_eq, decide_eq_false_iff_not, beq_iff_eq, bne_iff_ne, beq_eq_false_iff_ne, bne_eq_false_iff_eq, Bool.true_and, ne_eq, Decidable.not_not, Int.not_lt, Int.not_le, Nat.not_lt, Nat.not_le, strB_nil, strB_nil', strB_nnil, strB_nnil'] at h5
        refine run_region (q_move .n (.t rfl) rfl <|
            q_move .n (.t rfl) rfl <|
            q_move .n (.t rfl) rfl <|
            q_callM (full := false) [(0, 0)] [] .n rfl .f en_74 (.cons (.t rfl) (.cons (.c rfl) .nil)) (.cons (.b (.mutp rfl)) (.cons (.b (.a (.same rfl))) .nil)) (c_spec_l00Src_pick (bif (decide (0 ≤ (m_spec_l27At x1.2.2.2.1 (at' ([([97] : List UInt8), ([98] : List UInt8), ([99] : List UInt8), ([100] : List UInt8), ([101] : List UInt8), ([102] : List UInt8)] : List (List UInt8)) (m_spec_l00Src_pick (gl00Src.mk x1.1 x1.2.1 x1.2.2.1) 6).1)))) then (m_spec_l00Src_one (m_spec_l00Src_pick (gl00Src.mk x1.1 x1.2.1 x1.2.2.1) 6).2 2).2 else (m_spec_l00Src_pick (gl00Src.mk x1.1 x1.2.1 x1.2.2.1) 6).2) 1001 (by (try dsimp only); (with_reducible (first | apply Lim.mono | apply Lim.out | apply LimA.mono)); (repeat (with_reducible (first | assumption | apply Lim.one | apply Lim.pick | apply Lim.bif1 | apply Lim.text | apply Lim.dstate | apply Lim.chg | apply Lim.from | apply Lim.mk))); omega)) ⟨rfl, trivial⟩ rfl rfl (fun h => Bool.noConfusion h) (fun h => Bool.noConfusion h) rfl <|
            q_build (us := [.str (at' ([([97] : List UInt8), ([98] : List UInt8), ([99] : List UInt8), ([100] : List UInt8), ([101] : List UInt8), ([102] : List UInt8)] : List (List UInt8)) (m_spec_l00Src_pick (gl00Src.mk x1.1 x1.2.1 x1.2.2.1) 6).1), .int .i64 (m_spec_l00Src_pick (bif (decide (0 ≤ (m_spec_l27At x1.2.2.2.1 (at' ([([97] : List UInt8), ([98] : List UInt8), ([99] : List UInt8), ([100] : List UInt8), ([101] : List UInt8), ([102] : List UInt8)] : List (List UInt8)) (m_spec_l00Src_pick (gl00Src.mk x1.1 x1.2.1 x1.2.2.1) 6).1)))) then (m_spec_l00Src_one (m_spec_l00Src_pick (gl00Src.mk x1.1 x1.2.1 x1.2.2.1) 6).2 2).2 else (m_spec_l00Src_pick (gl00Src.mk x1.1 x1.2.1 x1.2.2.1) 6).2) 1001).1]) .n (.cons (.t rfl) (.cons (.t rfl) .nil)) zv_75 pl_75 rfl rfl rfl <|
            q_callM (full := true) [] [(100, 206)] .n rfl .f en_78 (.cons (.t rfl) (.cons (.t rfl) .nil)) (.cons (.b (.a (.own rfl rfl rfl (take_all (by simp only [len_map, put_len] <;> rfl)) (by simp only [len_map, put_len] <;> rfl)))) (.cons (.sts rfl) .nil)) (c_spec_l27Set x1.2.2.2.1 (gSetting.mk (at' ([([97] : List UInt8), ([98] : List UInt8), ([99] : List UInt8), ([100] : List UInt8), ([101] : List UInt8), ([102] : List UInt8)] : List (List UInt8)) (m_spec_l00Src_pick (gl00Src.mk x1.1 x1.2.1 x1.2.2.1) 6).1) (m_spec_l00Src_pick (bif (decide (0 ≤ (m_spec_l27At x1.2.2.2.1 (at' ([([97] : List UInt8), ([98] : List UInt8), ([99] : List UInt8), ([100] : List UInt8), ([101] : List UInt8), ([102] : List UInt8)] : List (List UInt8)) (m_spec_l00Src_pick (gl00Src.mk x1.1 x1.2.1 x1.2.2.1) 6).1)))) then (m_spec_l00Src_one (m_spec_l00Src_pick (gl00Src.mk x1.1 x1.2.1 x1.2.2.1) 6).2 2).2 else (m_spec_l00Src_pick (gl00Src.mk x1.1 x1.2.1 x1.2.2.1) 6).2) 1001).1) (by ((have hq := DS.len (by assumption : DS x1.2.2.2.1); have hq2 := chg_idx (sd := x1.2.2.1) (by assumption : LimA x1.1 x1.2.1 _); omega)))) trivial rfl rfl (fun _ => rfl) (fun _ => (hr_row (fun _ => rfl) hr_nil)) rfl <|
            q_assign .n (.t rfl) rfl <|
            Lex.nil) ?_
        refine run_endB ?_
        refine run_region (q_move .n (.t rfl) rfl <|
            q_sub .n (.t rfl) (.c rfl) (fun _ => by omega) rfl <|
            q_assign .n (.t rfl) rfl <|
            Lex.nil) ?_
        exact run_again ((m_spec_l00Src_pick (bif (decide (0 ≤ (m_spec_l27At x1.2.2.2.1 (at' ([([97] : List UInt8), ([98] : List UInt8), ([99] : List UInt8), ([100] : List UInt8), ([101] : List UInt8), ([102] : List UInt8)] : List (List UInt8)) (m_spec_l00Src_pick (gl00Src.mk x1.1 x1.2.1 x1.2.2.1) 6).1)))) then (m_spec_l00Src_one (m_spec_l00Src_pick (gl00Src.mk x1.1 x1.2.1 x1.2.2.1) 6).2 2).2 else (m_spec_l00Src_pick (gl00Src.mk x1.1 x1.2.1 x1.2.2.1) 6).2) 1001).2.code, (m_spec_l00Src_pick (bif (decide (0 ≤ (m_spec_l27At x1.2.2.2.1 (at' ([([97] : List UInt8), ([98] : List UInt8), ([99] : List UInt8), ([100] : List UInt8), ([101] : List UInt8), ([102] : List UInt8)] : List (List UInt8)) (m_spec_l00Src_pick (gl00Src.mk x1.1 x1.2.1 x1.2.2.1) 6).1)))) then (m_spec_l00Src_one (m_spec_l00Src_pick (gl00Src.mk x1.1 x1.2.1 x1.2.2.1) 6).2 2).2 else (m_spec_l00Src_pick (gl00Src.mk x1.1 x1.2.1 x1.2.2.1) 6).2) 1001).2.at_, (m_spec_l00Src_pick (bif (decide (0 ≤ (m_spec_l27At x1.2.2.2.1 (at' ([([97] : List UInt8), ([98] : List UInt8), ([99] : List UInt8), ([100] : List UInt8), ([101] : List UInt8), ([102] : List UInt8)] : List (List UInt8)) (m_spec_l00Src_pick (gl00Src.mk x1.1 x1.2.1 x1.2.2.1) 6).1)))) then (m_spec_l00Src_one (m_spec_l00Src_pick (gl00Src.mk x1.1 x1.2.1 x1.2.2.1) 6).2 2).2 else (m_spec_l00Src_pick (gl00Src.mk x1.1 x1.2.1 x1.2.2.1) 6).2) 1001).2.seed, m_spec_l27Set x1.2.2.2.1 (gSetting.mk (at' ([([97] : List UInt8), ([98] : List UInt8), ([99] : List UInt8), ([100] : List UInt8), ([101] : List UInt8), ([102] : List UInt8)] : List (List UInt8)) (m_spec_l00Src_pick (gl00Src.mk x1.1 x1.2.1 x1.2.2.1) 6).1) (m_spec_l00Src_pick (bif (decide (0 ≤ (m_spec_l27At x1.2.2.2.1 (at' ([([97] : List UInt8), ([98] : List UInt8), ([99] : List UInt8), ([100] : List UInt8), ([101] : List UInt8), ([102] : List UInt8)] : List (List UInt8)) (m_spec_l00Src_pick (gl00Src.mk x1.1 x1.2.1 x1.2.2.1) 6).1)))) then (m_spec_l00Src_one (m_spec_l00Src_pick (gl00Src.mk x1.1 x1.2.1 x1.2.2.1) 6).2 2).2 else (m_spec_l00Src_pick (gl00Src.mk x1.1 x1.2.1 x1.2.2.1) 6).2) 1001).1), x1.2.2.2.2 - 1) ⟨by (simp only [List.length_append, List.length_cons, List.length_nil, List.length_replicate, put_len] at * <;> omega), by (try dsimp only); (with_reducible (first | apply Lim.mono | apply Lim.out | apply LimA.mono)); (repeat (with_reducible (first | assumption | apply Lim.one | apply Lim.pick | apply Lim.bif1 | apply Lim.text | apply Lim.dstate | apply Lim.chg | apply Lim.from | apply Lim.mk))); omega, by (simp only [List.length_append, List.length_cons, List.length_nil, List.length_replicate, put_len] at * <;> omega), by (exact chg_set (by assumption) (by assumption))⟩ (by (simp only [List.length_append, List.length_cons, List.length_nil, List.length_replicate, put_len] at * <;> omega)) (sub_of [(201, 206)] ⟨rfl, rfl, rfl, rfl, trivial⟩ ⟨rfl, rfl, rfl, trivial⟩ rfl)
    · try simp only [Bool.and_eq_true, Bool.or_eq_true, Bool.not_eq_true', Bool.and_eq_false_iff, Bool.or_eq_false_iff, Bool.not_eq_false', decide_eq_true_eq, decide_eq_false_iff_not, beq_iff_eq, bne_iff_ne, beq_eq_false_iff_ne, bne_eq_false_iff_eq, Bool.true_and, ne_eq, Decidable.not_not, Int.not_lt, Int.not_le, Nat.not_lt, Nat.not_le, strB_nil, strB_nil', strB_nnil, strB_nnil'] at h4
      refine run_exit rfl ?_
      exact run_cont hk2 (x1.1, x1.2.1, x1.2.2.1, x1.2.2.2.1, x1.2.2.2.2) ⟨by omega, by (try dsimp only); (with_reducible (first | apply Lim.mono | apply Lim.out | apply LimA.mono)); (repeat (with_reducible (first | assumption | apply Lim.one | apply Lim.pick | apply Lim.bif1 | apply Lim.text | apply Lim.dstate | apply Lim.chg | apply Lim.from | apply Lim.mk))); omega, by omega, by omega⟩ (sub_of [] ⟨rfl, trivial⟩ ⟨rfl, rfl, trivial⟩ rfl)

/-! ### spec_l00Src_text -/
theorem c_spec_l00Src_text (s_ : gl00Src) (list : List (List UInt8)) (hp1 : Lim s_ 800000) (hp2 : 0 < list.length) : Con Tryd.prog 75 [.op 0 0 0 0, .os 1 list.length] [(0, some (.box 102 [.sl 1 (s_.code.map (V.int .u8)), .int .i64 s_.at_, .int .u64 s_.seed])), (1, some (.row 9 1 (list.map V.str)))] (.str (m_spec_l00Src_text s_ list).1) ([(0, some (.box 102 [.sl 1 ((m_spec_l00Src_text s_ list).2.1.code.map (V.int .u8)), .int .i64 (m_spec_l00Src_text s_ list).2.1.at_, .int .u64 (m_spec_l00Src_text s_ list).2.1.seed])), (1, some (.row 9 1 ((m_spec_l00Src_text s_ list).2.2.map V.str)))]) := by
  refine con_intro (out := fun r : (List UInt8) × gl00Src × (List (List UInt8)) => ((.str r.1 : V), ([(0, some (.box 102 [.sl 1 (r.2.1.code.map (V.int .u8)), .int .i64 r.2.1.at_, .int .u64 r.2.1.seed])), (1, some (.row 9 1 (r.2.2.map V.str)))] : List (Nat × Option O)))) (r := (m_spec_l00Src_text s_ list)) Tryd.func75 rfl Tryd.ntmps75 rfl ?_
  have hN := hp1.num (k := (list.length : Int))
  refine run_factH (l := 1) rfl fun hl => ?_
  have l1 := hl; clear hl; simp only [List.length_map] at l1
  refine run_seq ?_
  refine run_region (q_assign .n (.c rfl) rfl <|
      Lex.nil) ?_
  refine run_seq ?_
  refine run_region (q_move .n (.t rfl) rfl <|
      q_move .n (.t rfl) rfl <|
      q_move .n (.t rfl) rfl <|
      q_len .n (.t rfl) rfl rfl ss_105 rfl <|
      q_callM (full := false) [(0, 0)] [] .n rfl .f en_74 (.cons (.t rfl) (.cons (.t rfl) .nil)) (.cons (.b (.mutp rfl)) (.cons (.b (.a (.same rfl))) .nil)) (c_spec_l00Src_pick s_ (list.length : Int) (by (try dsimp only); (with_reducible (first | apply Lim.mono | apply Lim.out | apply LimA.mono)); (repeat (with_reducible (first | assumption | apply Lim.pick | apply Lim.next | apply Lim.mk))); omega)) ⟨rfl, trivial⟩ rfl rfl (fun h => Bool.noConfusion h) (fun h => Bool.noConfusion h) rfl <|
      q_idx_ow .n (.t rfl) (.t rfl) sl_105 (fun _ => by omega) rfl <|
      q_ld1_row .n (.t rfl) rfl (fun _ => by omega) rfl rfl rfl ic_9 rfl <|
      q_assign .n (.t rfl) rfl <|
      Lex.nil) ?_
  exact run_ret [] (.cons (.t rfl rfl) .nil) rfl ⟨rfl, rfl, trivial⟩ rfl

/-! ### spec_l27Draw -/
set_option maxRecDepth 100000 in
set_option maxHeartbeats 4000000 in
theorem c_spec_l27Draw (s_ : gl00Src) (hp1 : Lim s_ 100000) : ConG Tryd.prog 43 [.op 0 0 0 0] [(0, some (.box 102 [.sl 1 (s_.code.map (V.int .u8)), .int .i64 s_.at_, .int .u64 s_.seed]))] (.os 100 (m_spec_l27Draw s_).1.length) ([(100, some (.row 54 4 ((m_spec_l27Draw s_).1.map gVersion.v))), (0, some (.box 102 [.sl 1 ((m_spec_l27Draw s_).2.code.map (V.int .u8)), .int .i64 (m_spec_l27Draw s_).2.at_, .int .u64 (m_spec_l27Draw s_).2.seed]))]) := by
  refine con_introG (out := fun r : (List gVersion) × gl00Src => ((.os 100 r.1.length : V), ([(100, some (.row 54 4 (r.1.map gVersion.v))), (0, some (.box 102 [.sl 1 (r.2.code.map (V.int .u8)), .int .i64 r.2.at_, .int .u64 r.2.seed]))] : List (Nat × Option O)))) (r := (m_spec_l27Draw s_)) Tryd.func43 rfl Tryd.ntmps43 rfl ?_
  have hn0 := hp1.num (k := 6)
  have hn1 := hn0.2 (by omega)
  refine run_seq ?_
  refine run_region (q_assign .n (.c rfl) rfl <|
      Lex.nil) ?_
  refine run_seq ?_
  refine run_region (q_bslicem ([] : List gVersion) (f := gVersion.v) (l := 200) .n rfl rfl .nil rfl si_24 zv_54 rfl rfl rfl <|
      q_assign .n (.t rfl) rfl <|
      Lex.nil) ?_
  refine run_seq ?_
  refine run_seq ?_
  refine run_region (q_move .n (.t rfl) rfl <|
      q_callM (full := false) [(0, 0)] [] .n rfl .f en_74 (.cons (.t rfl) (.cons (.c rfl) .nil)) (.cons (.b (.mutp rfl)) (.cons (.b (.a (.same rfl))) .nil)) (c_spec_l00Src_pick s_ 6 (by (try dsimp only); (with_reducible (first | apply Lim.mono | apply Lim.out | apply LimA.mono)); (repeat (with_reducible (first | assumption | exact hist_ds (by assumption) (by omega) (by assumption) (by assumption) | apply Lim.one | apply Lim.pick | apply Lim.text | apply Lim.dstate | apply Lim.chg | apply Lim.mk))); omega)) ⟨rfl, trivial⟩ rfl rfl (fun h => Bool.noConfusion h) (fun h => Bool.noConfusion h) rfl <|
      q_assign .n (.t rfl) rfl <|
      Lex.nil) ?_
  refine run_block ?_
  refine run_LOOPG (m_spec_l27Draw_b1 s_) _ _ _ rfl (fun (x1 : (List Int) × Int × Int × (List gVersion) × Int) => x1.2.2.2.2 ≤ (m_spec_l00Src_pick s_ 6).1 ∧ LimA x1.1 x1.2.1 (100500 - 60 * x1.2.2.2.2) ∧ (0 ≤ x1.2.2.2.2 ∧ x1.2.2.2.2 ≤ 5) ∧ (x1.2.2.2.1.length : Int) + x1.2.2.2.2 ≤ 5 ∧ (∀ v ∈ x1.2.2.2.1, DS v.State)) (fun x1 => x1.2.2.2.2 ≤ (m_spec_l00Src_pick s_ 6).1 ∧ LimA x1.1 x1.2.1 (100500 - 60 * x1.2.2.2.2) ∧ (0 ≤ x1.2.2.2.2 ∧ x1.2.2.2.2 ≤ 5) ∧ (x1.2.2.2.1.length : Int) + x1.2.2.2.2 ≤ 5 ∧ (∀ v ∈ x1.2.2.2.1, DS v.State)) (fun x1 => x1.2.2.2.2.toNat) (fun x1 => ⟨[(0, some (true, .op 0 0 0 0)), (3, some (true, .os 200 x1.2.2.2.1.length)), (4, some (true, .int .i64 x1.2.2.2.2))], [(0, some (.box 102 [.sl 1 (x1.1.map (V.int .u8)), .int .i64 x1.2.1, .int .u64 x1.2.2.1])), (200, some (.row 54 4 (x1.2.2.2.1.map gVersion.v)))]⟩) (fun x1 => ⟨[(3, some (true, .os 200 x1.2.2.2.1.length))], [(0, some (.box 102 [.sl 1 (x1.1.map (V.int .u8)), .int .i64 x1.2.1, .int .u64 x1.2.2.1])), (200, some (.row 54 4 (x1.2.2.2.1.map gVersion.v)))]⟩) ⟨by (simp only [List.length_append, List.length_cons, List.length_nil, List.length_replicate, put_len] at * <;> omega), by (try dsimp only); (with_reducible (first | apply Lim.mono | apply Lim.out | apply LimA.mono)); (repeat (with_reducible (first | assumption | exact hist_ds (by assumption) (by omega) (by assumption) (by assumption) | apply Lim.one | apply Lim.pick | apply Lim.text | apply Lim.dstate | apply Lim.chg | apply Lim.mk))); omega, by (simp only [List.length_append, List.length_cons, List.length_nil, List.length_replicate, put_len] at * <;> omega), by (simp only [List.length_append, List.length_cons, List.length_nil, List.length_replicate, put_len] at * <;> omega), by ((intro v hv; exact absurd hv List.not_mem_nil))⟩ (by (simp only [List.length_append, List.length_cons, List.length_nil, List.length_replicate, put_len] at * <;> omega)) (sub_of [] ⟨rfl, rfl, rfl, trivial⟩ ⟨rfl, rfl, trivial⟩ rfl) rfl ?_ ?_
  · intro x1 i11
    obtain ⟨e12, e13, e14, e15, e16⟩ := i11
    try dsimp only at *
    refine run_seq ?_
    refine run_region (q_move .n (.t rfl) rfl <|
        q_assign .n (.t rfl) rfl <|
        Lex.nil) ?_
    exact run_ret [(100, 200)] (.cons (.t rfl rfl) .nil) (by first | rfl | (simp only [put_len]; rfl)) ⟨rfl, rfl, trivial⟩ rfl
  · intro rec1 k1 hk1 x1 i2
    obtain ⟨e17, e18, e19, e20, e21⟩ := i2
    try dsimp only at *
    refine run_seq ?_
    refine run_seq ?_
    refine run_region (q_move .n (.t rfl) rfl <|
        q_int .n (.t rfl) (.c rfl) rfl rfl <|
        Lex.nil) ?_
    refine run_cond (.t rfl) rfl (fun h3 => ?_) (fun h3 => ?_)
    · try simp only [Bool.and_eq_true, Bool.or_eq_true, Bool.not_eq_true', Bool.and_eq_false_iff, Bool.or_eq_false_iff, Bool.not_eq_false', decide_eq_true_eq, decide_eq_false_iff_not, beq_iff_eq, bne_iff_ne, beq_eq_false_iff_ne, bne_eq_false_iff_eq, Bool.true_and, ne_eq, Decidable.not_not, Int.not_lt, Int.not_le, Nat.not_lt, Nat.not_le, strB_nil, strB_nil', strB_nnil, strB_nnil'] at h3
      refine run_skip ?_
      refine run_seq ?_
      refine run_block ?_
      refine run_seq ?_
      refine run_region (q_move .n (.t rfl) rfl <|
          q_len .n (.t rfl) rfl rfl ss_24 rfl <|
          q_assign .n (.t rfl) rfl <|
          Lex.nil) ?_
      refine run_seq ?_
      refine run_region (q_move .n (.t rfl) rfl <|
          q_move .n (.t rfl) rfl <|
          q_int .n (.t rfl) (.c rfl) rfl rfl <|
          q_callM (full := false) [(0, 0)] [] .n rfl .f en_74 (.cons (.t rfl) (.cons (.t rfl) .nil)) (.cons (.b (.mutp rfl)) (.cons (.b (.a (.same rfl))) .nil)) (c_spec_l00Src_pick (gl00Src.mk x1.1 x1.2.1 x1.2.2.1) (IntKind.wrap .i64 ((x1.2.2.2.1.length : Int) + 1)) (by (try dsimp only); (with_reducible (first | apply Lim.mono | apply Lim.out | apply LimA.mono)); (repeat (with_reducible (first | assumption | exact hist_ds (by assumption) (by omega) (by assumption) (by assumption) | apply Lim.one | apply Lim.pick | apply Lim.text | apply Lim.dstate | apply Lim.chg | apply Lim.mk))); omega)) ⟨rfl, trivial⟩ rfl rfl (fun h => Bool.noConfusion h) (fun h => Bool.noConfusion h) rfl <|
          q_assign .n (.t rfl) rfl <|
          Lex.nil) ?_
      refine run_seq ?_
      refine run_region (q_move .n (.t rfl) rfl <|
          q_callM (full := false) [(0, 0)] [(100, 201)] .n rfl .f en_44 (.cons (.t rfl) .nil) (.cons (.b (.mutp rfl)) .nil) (c_spec_l27DrawState (m_spec_l00Src_pick (gl00Src.mk x1.1 x1.2.1 x1.2.2.1) (IntKind.wrap .i64 ((x1.2.2.2.1.length : Int) + 1))).2 (by (try dsimp only); (with_reducible (first | apply Lim.mono | apply Lim.out | apply LimA.mono)); (repeat (with_reducible (first | assumption | exact hist_ds (by assumption) (by omega) (by assumption) (by assumption) | apply Lim.one | apply Lim.pick | apply Lim.text | apply Lim.dstate | apply Lim.chg | apply Lim.mk))); omega)) ⟨rfl, trivial⟩ rfl rfl (fun h => Bool.noConfusion h) (fun h => Bool.noConfusion h) rfl <|
          q_assign .n (.t rfl) rfl <|
          Lex.nil) ?_
      refine run_seq ?_
      refine run_seq ?_
      refine run_region (q_move .n (.t rfl) rfl <|
          q_int .n (.t rfl) (.c rfl) rfl rfl <|
          Lex.nil) ?_
      refine run_join _ _ rfl (fun v4 : (List Int) × Int × Int × (List gSetting) => LimA v4.1 v4.2.1 (100550 - 60 * x1.2.2.2.2) ∧ DS v4.2.2.2) (fun v4 => ⟨[(0, some (true, .op 0 0 0 0)), (3, some (true, .os 200 x1.2.2.2.1.length)), (4, some (true, .int .i64 x1.2.2.2.2)), (5, some (true, .int .i64 (x1.2.2.2.1.length : Int))), (6, some (true, .int .i64 (m_spec_l00Src_pick (gl00Src.mk x1.1 x1.2.1 x1.2.2.1) (IntKind.wrap .i64 ((x1.2.2.2.1.length : Int) + 1))).1)), (7, some (true, .os 202 v4.2.2.2.length))], [(0, some (.box 102 [.sl 1 (v4.1.map (V.int .u8)), .int .i64 v4.2.1, .int .u64 v4.2.2.1])), (200, some (.row 54 4 (x1.2.2.2.1.map gVersion.v))), (202, some (.row 75 2 (v4.2.2.2.map gSetting.v)))]⟩) (fun v4 hv8 => ?_) (fun j5 hj6 => ?_)
      · obtain ⟨e9, e10⟩ := hv8
        refine run_seq ?_
        refine run_ro <| ro_lex (l1 := [_, _, _, _]) (l2 := [_, _, _]) rfl (q_move .n (.t rfl) rfl <|
            q_int .n (.t rfl) (.c rfl) rfl rfl <|
            q_move .n (.t rfl) rfl <|
            q_move .n (.t rfl) rfl <|
            Lex.nil) <|
            ro_freezeL (l := 202) [7, 37] ⟨rfl, rfl, trivial⟩ rfl (take_all (by simp only [len_map, put_len] <;> rfl)) (by simp only [len_map, put_len] <;> rfl) rfl <|
            ro_lex (l1 := [_, _, _]) (l2 := []) rfl (q_build (us := [.int .i64 (IntKind.wrap .i64 ((x1.2.2.2.1.length : Int) + 1)), .int .i64 (m_spec_l00Src_pick (gl00Src.mk x1.1 x1.2.1 x1.2.2.1) (IntKind.wrap .i64 ((x1.2.2.2.1.length : Int) + 1))).1, .str ([] : List UInt8), .sl 2 (v4.2.2.2.map gSetting.v)]) .n (.cons (.t rfl) (.cons (.t rfl) (.cons (.t rfl) .nil))) zv_54 pl_54 rfl rfl rfl <|
            q_alloc (l := 203) .n rfl zv_54 rfl rfl <|
            q_st_boxm [.int .i64 (IntKind.wrap .i64 ((x1.2.2.2.1.length : Int) + 1)), .int .i64 (m_spec_l00Src_pick (gl00Src.mk x1.1 x1.2.1 x1.2.2.1) (IntKind.wrap .i64 ((x1.2.2.2.1.length : Int) + 1))).1, .str ([] : List UInt8), .sl 2 (v4.2.2.2.map gSetting.v)] .n rfl (.t rfl) (.t rfl) rfl ts_54 rfl rfl <|
            Lex.nil) <|
            ro_end ?_
        refine run_seq ?_
        refine run_region (q_move .n (.t rfl) rfl <|
            q_bslicem ([([] : List UInt8), ([110, 101, 119] : List UInt8), ([97, 32, 98] : List UInt8)] : List (List UInt8)) (f := V.str) (l := 204) .n rfl rfl (.cons (.c rfl) (.cons (.c rfl) (.cons (.c rfl) .nil))) rfl si_105 zv_9 rfl rfl rfl <|
            q_callM (full := false) [(0, 0), (1, 204)] [] .n rfl .f en_75 (.cons (.t rfl) (.cons (.t rfl) .nil)) (.cons (.b (.mutp rfl)) (.cons (.b (.muts rfl)) .nil)) (c_spec_l00Src_text (gl00Src.mk v4.1 v4.2.1 v4.2.2.1) ([([] : List UInt8), ([110, 101, 119] : List UInt8), ([97, 32, 98] : List UInt8)] : List (List UInt8)) (by (try dsimp only); (with_reducible (first | apply Lim.mono | apply Lim.out | apply LimA.mono)); (repeat (with_reducible (first | assumption | exact hist_ds (by assumption) (by omega) (by assumption) (by assumption) | apply Lim.one | apply Lim.pick | apply Lim.text | apply Lim.dstate | apply Lim.chg | apply Lim.mk))); omega) (by (simp only [List.length_append, List.length_cons, List.length_nil, List.length_replicate, put_len] at * <;> omega))) ⟨rfl, rfl, trivial⟩ rfl rfl (fun h => Bool.noConfusion h) (fun h => Bool.noConfusion h) rfl <|
            q_fld_ow .n (.t rfl) fo_54_2 rfl <|
            q_st_boxm [.int .i64 (IntKind.wrap .i64 ((x1.2.2.2.1.length : Int) + 1)), .int .i64 (m_spec_l00Src_pick (gl00Src.mk x1.1 x1.2.1 x1.2.2.1) (IntKind.wrap .i64 ((x1.2.2.2.1.length : Int) + 1))).1, .str (m_spec_l00Src_text (gl00Src.mk v4.1 v4.2.1 v4.2.2.1) ([([] : List UInt8), ([110, 101, 119] : List UInt8), ([97, 32, 98] : List UInt8)] : List (List UInt8))).1, .sl 2 (v4.2.2.2.map gSetting.v)] .n rfl (.t rfl) (.t rfl) rfl ts_9 rfl rfl <|
            Lex.nil) ?_
        refine run_region (q_move .n (.t rfl) rfl <|
            q_ldN_ow .n (.t rfl) rfl (.inr rfl) ag_54 (fun _ => rfl) rfl rfl <|
            q_bslicem ([gVersion.mk (IntKind.wrap .i64 ((x1.2.2.2.1.length : Int) + 1)) (m_spec_l00Src_pick (gl00Src.mk x1.1 x1.2.1 x1.2.2.1) (IntKind.wrap .i64 ((x1.2.2.2.1.length : Int) + 1))).1 (m_spec_l00Src_text (gl00Src.mk v4.1 v4.2.1 v4.2.2.1) ([([] : List UInt8), ([110, 101, 119] : List UInt8), ([97, 32, 98] : List UInt8)] : List (List UInt8))).1 v4.2.2.2] : List gVersion) (f := gVersion.v) (l := 205) .n rfl rfl (.cons (.t rfl) .nil) rfl si_24 zv_54 rfl rfl rfl <|
            q_appm (xs := x1.2.2.2.1) (ys := ([gVersion.mk (IntKind.wrap .i64 ((x1.2.2.2.1.length : Int) + 1)) (m_spec_l00Src_pick (gl00Src.mk x1.1 x1.2.1 x1.2.2.1) (IntKind.wrap .i64 ((x1.2.2.2.1.length : Int) + 1))).1 (m_spec_l00Src_text (gl00Src.mk v4.1 v4.2.1 v4.2.2.1) ([([] : List UInt8), ([110, 101, 119] : List UInt8), ([97, 32, 98] : List UInt8)] : List (List UInt8))).1 v4.2.2.2] : List gVersion)) (f := gVersion.v) (l := 206) .n rfl (.ow (.t rfl) rfl (take_all (by simp only [len_map, put_len] <;> rfl)) (by simp only [len_map, put_len] <;> rfl)) (.ow (.t rfl) rfl (take_all (by simp only [len_map, put_len] <;> rfl)) (by simp only [len_map, put_len] <;> rfl)) si_24 zv_54 rfl (by (simp only [List.length_append, List.length_cons, List.length_nil, List.length_replicate, put_len] at * <;> omega)) rfl rfl <|
            q_assign .n (.t rfl) rfl <|
            Lex.nil) ?_
        refine run_endB ?_
        refine run_region (q_move .n (.t rfl) rfl <|
            q_sub .n (.t rfl) (.c rfl) (fun _ => by omega) rfl <|
            q_assign .n (.t rfl) rfl <|
            Lex.nil) ?_
        exact run_againG ((m_spec_l00Src_text (gl00Src.mk v4.1 v4.2.1 v4.2.2.1) ([([] : List UInt8), ([110, 101, 119] : List UInt8), ([97, 32, 98] : List UInt8)] : List (List UInt8))).2.1.code, (m_spec_l00Src_text (gl00Src.mk v4.1 v4.2.1 v4.2.2.1) ([([] : List UInt8), ([110, 101, 119] : List UInt8), ([97, 32, 98] : List UInt8)] : List (List UInt8))).2.1.at_, (m_spec_l00Src_text (gl00Src.mk v4.1 v4.2.1 v4.2.2.1) ([([] : List UInt8), ([110, 101, 119] : List UInt8), ([97, 32, 98] : List UInt8)] : List (List UInt8))).2.1.seed, x1.2.2.2.1 ++ ([gVersion.mk (IntKind.wrap .i64 ((x1.2.2.2.1.length : Int) + 1)) (m_spec_l00Src_pick (gl00Src.mk x1.1 x1.2.1 x1.2.2.1) (IntKind.wrap .i64 ((x1.2.2.2.1.length : Int) + 1))).1 (m_spec_l00Src_text (gl00Src.mk v4.1 v4.2.1 v4.2.2.1) ([([] : List UInt8), ([110, 101, 119] : List UInt8), ([97, 32, 98] : List UInt8)] : List (List UInt8))).1 v4.2.2.2] : List gVersion), x1.2.2.2.2 - 1) ⟨by (simp only [List.length_append, List.length_cons, List.length_nil, List.length_replicate, put_len] at * <;> omega), by (try dsimp only); (with_reducible (first | apply Lim.mono | apply Lim.out | apply LimA.mono)); (repeat (with_reducible (first | assumption | exact hist_ds (by assumption) (by omega) (by assumption) (by assumption) | apply Lim.one | apply Lim.pick | apply Lim.text | apply Lim.dstate | apply Lim.chg | apply Lim.mk))); omega, by (simp only [List.length_append, List.length_cons, List.length_nil, List.length_replicate, put_len] at * <;> omega), by (simp only [List.length_append, List.length_cons, List.length_nil, List.length_replicate, put_len] at * <;> omega), by ((intro v hv; rw [List.mem_append, List.mem_singleton] at hv; rcases hv with hv | hv; exact (by assumption : ∀ v ∈ x1.2.2.2.1, DS v.State) v hv; rw [hv]; assumption))⟩ (by (simp only [List.length_append, List.length_cons, List.length_nil, List.length_replicate, put_len] at * <;> omega)) (sub_of [(200, 206)] ⟨rfl, rfl, rfl, trivial⟩ ⟨rfl, rfl, trivial⟩ rfl)
      · refine run_cond (.t rfl) rfl (fun h7 => ?_) (fun h7 => ?_)
        · try simp only [Bool.and_eq_true, Bool.or_eq_true, Bool.not_eq_true', Bool.and_eq_false_iff, Bool.or_eq_false_iff, Bool.not_eq_false', decide_eq_true_eq, decide_eq_false_iff_not, beq_iff_eq, bne_iff_ne, beq_eq_false_iff_ne, bne_eq_false_iff_eq, Bool.true_and, ne_eq, Decidable.not_not, Int.not_lt, Int.not_le, Nat.not_lt, Nat.not_le, strB_nil, strB_nil', strB_nnil, strB_nnil'] at h7
          refine run_region (q_move .n (.t rfl) rfl <|
              q_move .n (.t rfl) rfl <|
              q_move .n (.t rfl) rfl <|
              q_int .n (.t rfl) (.c rfl) rfl rfl <|
              q_idx_ow .n (.t rfl) (.t rfl) sl_24 (fun _ => by (exact hist_idx (by assumption) (by omega) (by assumption))) rfl <|
              q_fld_ow .n (.t rfl) fo_54_3 rfl <|
              q_ld1_row .n (.t rfl) rfl (fun _ => by (exact hist_idx (by assumption) (by omega) (by assumption))) rfl rfl rfl ic_34 rfl <|
              q_callM (full := false) [(0, 0)] [(100, 202)] .n rfl .f en_45 (.cons (.t rfl) (.cons (.t rfl) .nil)) (.cons (.b (.mutp rfl)) (.cons (.b (.a (.same rfl))) .nil)) (c_spec_l27Changed (m_spec_l27DrawState (m_spec_l00Src_pick (gl00Src.mk x1.1 x1.2.1 x1.2.2.1) (IntKind.wrap .i64 ((x1.2.2.2.1.length : Int) + 1))).2).2 (at' x1.2.2.2.1 (IntKind.wrap .i64 ((m_spec_l00Src_pick (gl00Src.mk x1.1 x1.2.1 x1.2.2.1) (IntKind.wrap .i64 ((x1.2.2.2.1.length : Int) + 1))).1 - 1))).State (by (try dsimp only); (with_reducible (first | apply Lim.mono | apply Lim.out | apply LimA.mono)); (repeat (with_reducible (first | assumption | exact hist_ds (by assumption) (by omega) (by assumption) (by assumption) | apply Lim.one | apply Lim.pick | apply Lim.text | apply Lim.dstate | apply Lim.chg | apply Lim.mk))); omega) (by (exact hist_ds (by assumption) (by omega) (by assumption) (by assumption)))) ⟨rfl, trivial⟩ rfl rfl (fun h => Bool.noConfusion h) (fun h => Bool.noConfusion h) rfl <|
              q_assign .n (.t rfl) rfl <|
              Lex.nil) ?_
          exact run_cont hj6 ((m_spec_l27Changed (m_spec_l27DrawState (m_spec_l00Src_pick (gl00Src.mk x1.1 x1.2.1 x1.2.2.1) (IntKind.wrap .i64 ((x1.2.2.2.1.length : Int) + 1))).2).2 (at' x1.2.2.2.1 (IntKind.wrap .i64 ((m_spec_l00Src_pick (gl00Src.mk x1.1 x1.2.1 x1.2.2.1) (IntKind.wrap .i64 ((x1.2.2.2.1.length : Int) + 1))).1 - 1))).State).2.code, (m_spec_l27Changed (m_spec_l27DrawState (m_spec_l00Src_pick (gl00Src.mk x1.1 x1.2.1 x1.2.2.1) (IntKind.wrap .i64 ((x1.2.2.2.1.length : Int) + 1))).2).2 (at' x1.2.2.2.1 (IntKind.wrap .i64 ((m_spec_l00Src_pick (gl00Src.mk x1.1 x1.2.1 x1.2.2.1) (IntKind.wrap .i64 ((x1.2.2.2.1.length : Int) + 1))).1 - 1))).State).2.at_, (m_spec_l27Changed (m_spec_l27DrawState (m_spec_l00Src_pick (gl00Src.mk x1.1 x1.2.1 x1.2.2.1) (IntKind.wrap .i64 ((x1.2.2.2.1.length : Int) + 1))).2).2 (at' x1.2.2.2.1 (IntKind.wrap .i64 ((m_spec_l00Src_pick (gl00Src.mk x1.1 x1.2.1 x1.2.2.1) (IntKind.wrap .i64 ((x1.2.2.2.1.length : Int) + 1))).1 - 1))).State).2.seed, (m_spec_l27Changed (m_spec_l27DrawState (m_spec_l00Src_pick (gl00Src.mk x1.1 x1.2.1 x1.2.2.1) (IntKind.wrap .i64 ((x1.2.2.2.1.length : Int) + 1))).2).2 (at' x1.2.2.2.1 (IntKind.wrap .i64 ((m_spec_l00Src_pick (gl00Src.mk x1.1 x1.2.1 x1.2.2.1) (IntKind.wrap .i64 ((x1.2.2.2.1.length : Int) + 1))).1 - 1))).State).1) ⟨by (try dsimp only); (with_reducible (first | apply Lim.mono | apply Lim.out | apply LimA.mono)); (repeat (with_reducible (first | assumption | exact hist_ds (by assumption) (by omega) (by assumption) (by assumption) | apply Lim.one | apply Lim.pick | apply Lim.text | apply Lim.dstate | apply Lim.chg | apply Lim.mk))); omega, by (exact (changed_state (draw_state (Lim.pick (Lim.mk (by assumption : LimA x1.1 x1.2.1 _)))).2 (hist_ds (by assumption) (by omega) (by assumption) (by assumption))).1)⟩ (sub_of [] ⟨rfl, rfl, rfl, rfl, rfl, rfl, trivial⟩ ⟨rfl, rfl, rfl, trivial⟩ rfl)
        · try simp only [Bool.and_eq_true, Bool.or_eq_true, Bool.not_eq_true', Bool.and_eq_false_iff, Bool.or_eq_false_iff, Bool.not_eq_false', decide_eq_true_eq, decide_eq_false_iff_not, beq_iff_eq, bne_iff_ne, beq_eq_false_iff_ne, bne_eq_false_iff_eq, Bool.true_and, ne_eq, Decidable.not_not, Int.not_lt, Int.not_le, Nat.not_lt, Nat.not_le, strB_nil, strB_nil', strB_nnil, strB_nnil'] at h7
          refine run_skip ?_
          exact run_cont hj6 ((m_spec_l27DrawState (m_spec_l00Src_pick (gl00Src.mk x1.1 x1.2.1 x1.2.2.1) (IntKind.wrap .i64 ((x1.2.2.2.1.length : Int) + 1))).2).2.code, (m_spec_l27DrawState (m_spec_l00Src_pick (gl00Src.mk x1.1 x1.2.1 x1.2.2.1) (IntKind.wrap .i64 ((x1.2.2.2.1.length : Int) + 1))).2).2.at_, (m_spec_l27DrawState (m_spec_l00Src_pick (gl00Src.mk x1.1 x1.2.1 x1.2.2.1) (IntKind.wrap .i64 ((x1.2.2.2.1.length : Int) + 1))).2).2.seed, (m_spec_l27DrawState (m_spec_l00Src_pick (gl00Src.mk x1.1 x1.2.1 x1.2.2.1) (IntKind.wrap .i64 ((x1.2.2.2.1.length : Int) + 1))).2).1) ⟨by (try dsimp only); (with_reducible (first | apply Lim.mono | apply Lim.out | apply LimA.mono)); (repeat (with_reducible (first | assumption | exact hist_ds (by assumption) (by omega) (by assumption) (by assumption) | apply Lim.one | apply Lim.pick | apply Lim.text | apply Lim.dstate | apply Lim.chg | apply Lim.mk))); omega, by (exact (draw_state (Lim.pick (Lim.mk (by assumption : LimA x1.1 x1.2.1 _)))).1)⟩ (sub_of [(202, 201)] ⟨rfl, rfl, rfl, rfl, rfl, rfl, trivial⟩ ⟨rfl, rfl, rfl, trivial⟩ rfl)
    · try simp only [Bool.and_eq_true, Bool.or_eq_true, Bool.not_eq_true', Bool.and_eq_false_iff, Bool.or_eq_false_iff, Bool.not_eq_false', decide_eq_true_eq, decide_eq_false_iff_not, beq_iff_eq, bne_iff_ne, beq_eq_false_iff_ne, bne_eq_false_iff_eq, Bool.true_and, ne_eq, Decidable.not_not, Int.not_lt, Int.not_le, Nat.not_lt, Nat.not_le, strB_nil, strB_nil', strB_nnil, strB_nnil'] at h3
      refine run_exit rfl ?_
      exact run_cont hk1 (x1.1, x1.2.1, x1.2.2.1, x1.2.2.2.1, x1.2.2.2.2) ⟨by omega, by (try dsimp only); (with_reducible (first | apply Lim.mono | apply Lim.out | apply LimA.mono)); (repeat (with_reducible (first | assumption | exact hist_ds (by assumption) (by omega) (by assumption) (by assumption) | apply Lim.one | apply Lim.pick | apply Lim.text | apply Lim.dstate | apply Lim.chg | apply Lim.mk))); omega, by omega, by omega, by omega⟩ (sub_of [] ⟨rfl, trivial⟩ ⟨rfl, rfl, trivial⟩ rfl)

/-! ### spec_R8History -/
theorem c_spec_R8History (code : List Int) (hp1 : ∀ y ∈ code, 0 ≤ y ∧ y ≤ 255) : ConG Tryd.prog 13 [.sl 1 (code.map (V.int .u8))] [] (.os 100 (m_spec_R8History code).length) ([(100, some (.row 54 4 ((m_spec_R8History code).map gVersion.v)))]) := by
  refine con_introG (out := fun r : (List gVersion) => ((.os 100 r.length : V), ([(100, some (.row 54 4 (r.map gVersion.v)))] : List (Nat × Option O)))) (r := (m_spec_R8History code)) Tryd.func13 rfl Tryd.ntmps13 rfl ?_
  have hF := Lim.from hp1
  refine run_fact (t := 0) rfl fun hl => ?_
  have l1 := hl; clear hl; simp only [List.length_map] at l1
  refine run_seq ?_
  refine run_region (q_assign .n (.c rfl) rfl <|
      Lex.nil) ?_
  refine run_seq ?_
  refine run_region (q_move .n (.t rfl) rfl <|
      q_callM (full := false) [] [(100, 200)] .n rfl .f en_42 (.cons (.t rfl) .nil) (.cons (.b (.a (.same rfl))) .nil) (c_spec_l00From code) trivial rfl rfl (fun h => Bool.noConfusion h) (fun h => Bool.noConfusion h) rfl <|
      q_assign .n (.t rfl) rfl <|
      Lex.nil) ?_
  refine run_seq ?_
  refine run_ro <| ro_lex (l1 := [_]) (l2 := [_, _]) rfl (q_move .n (.t rfl) rfl <|
      Lex.nil) <|
      ro_callGM [(0, 200)] [(100, 201)] .f en_43 (.cons (.t rfl) .nil) (.cons (.b (.mutp rfl)) .nil) (c_spec_l27Draw (m_spec_l00From code) (by (try dsimp only); (with_reducible (first | apply Lim.mono | apply Lim.out | apply LimA.mono)); (repeat (with_reducible (first | assumption | apply Lim.one | apply Lim.pick | apply Lim.bif1 | apply Lim.text | apply Lim.dstate | apply Lim.chg | apply Lim.from | apply Lim.mk))); omega)) ⟨rfl, trivial⟩ rfl rfl rfl rfl <|
      ro_lex (l1 := [_]) (l2 := []) rfl (q_assign .n (.t rfl) rfl <|
      Lex.nil) <|
      ro_end ?_
  exact run_ret [(100, 201)] (.cons (.t rfl rfl) .nil) (by first | rfl | (simp only [put_len]; rfl)) ⟨rfl, trivial⟩ rfl

/-! ### spec_R8State -/
theorem c_spec_R8State (code : List Int) (hp1 : ∀ y ∈ code, 0 ≤ y ∧ y ≤ 255) : Con Tryd.prog 14 [.sl 1 (code.map (V.int .u8))] [] (.os 100 (m_spec_R8State code).length) ([(100, some (.row 75 2 ((m_spec_R8State code).map gSetting.v)))]) := by
  refine con_intro (out := fun r : (List gSetting) => ((.os 100 r.length : V), ([(100, some (.row 75 2 (r.map gSetting.v)))] : List (Nat × Option O)))) (r := (m_spec_R8State code)) Tryd.func14 rfl Tryd.ntmps14 rfl ?_
  have hF := Lim.from hp1
  refine run_fact (t := 0) rfl fun hl => ?_
  have l1 := hl; clear hl; simp only [List.length_map] at l1
  refine run_seq ?_
  refine run_region (q_assign .n (.c rfl) rfl <|
      Lex.nil) ?_
  refine run_seq ?_
  refine run_region (q_move .n (.t rfl) rfl <|
      q_callM (full := false) [] [(100, 200)] .n rfl .f en_42 (.cons (.t rfl) .nil) (.cons (.b (.a (.same rfl))) .nil) (c_spec_l00From code) trivial rfl rfl (fun h => Bool.noConfusion h) (fun h => Bool.noConfusion h) rfl <|
      q_assign .n (.t rfl) rfl <|
      Lex.nil) ?_
  refine run_seq ?_
  refine run_region (q_move .n (.t rfl) rfl <|
      q_callM (full := false) [(0, 200)] [(100, 201)] .n rfl .f en_44 (.cons (.t rfl) .nil) (.cons (.b (.mutp rfl)) .nil) (c_spec_l27DrawState (m_spec_l00From code) (by (try dsimp only); (with_reducible (first | apply Lim.mono | apply Lim.out | apply LimA.mono)); (repeat (with_reducible (first | assumption | apply Lim.one | apply Lim.pick | apply Lim.bif1 | apply Lim.text | apply Lim.dstate | apply Lim.chg | apply Lim.from | apply Lim.mk))); omega)) ⟨rfl, trivial⟩ rfl rfl (fun h => Bool.noConfusion h) (fun h => Bool.noConfusion h) rfl <|
      q_assign .n (.t rfl) rfl <|
      Lex.nil) ?_
  exact run_ret [(100, 201)] (.cons (.t rfl rfl) .nil) (by first | rfl | (simp only [put_len]; rfl)) ⟨rfl, trivial⟩ rfl

/-! ### spec_R8Changed -/
theorem c_spec_R8Changed (code : List Int) (list : List gSetting) (hp1 : ∀ y ∈ code, 0 ≤ y ∧ y ≤ 255) (hp2 : DS list) : Con Tryd.prog 15 [.sl 1 (code.map (V.int .u8)), .sl 2 (list.map gSetting.v)] [] (.os 100 (m_spec_R8Changed code list).length) ([(100, some (.row 75 2 ((m_spec_R8Changed code list).map gSetting.v)))]) := by
  refine con_intro (out := fun r : (List gSetting) => ((.os 100 r.length : V), ([(100, some (.row 75 2 (r.map gSetting.v)))] : List (Nat × Option O)))) (r := (m_spec_R8Changed code list)) Tryd.func15 rfl Tryd.ntmps15 rfl ?_
  have hF := Lim.from hp1
  refine run_fact (t := 0) rfl fun hl => ?_
  have l1 := hl; clear hl; simp only [List.length_map] at l1
  refine run_fact (t := 1) rfl fun hl => ?_
  have l2 := hl; clear hl; simp only [List.length_map] at l2
  refine run_seq ?_
  refine run_region (q_assign .n (.c rfl) rfl <|
      Lex.nil) ?_
  refine run_seq ?_
  refine run_region (q_move .n (.t rfl) rfl <|
      q_callM (full := false) [] [(100, 200)] .n rfl .f en_42 (.cons (.t rfl) .nil) (.cons (.b (.a (.same rfl))) .nil) (c_spec_l00From code) trivial rfl rfl (fun h => Bool.noConfusion h) (fun h => Bool.noConfusion h) rfl <|
      q_assign .n (.t rfl) rfl <|
      Lex.nil) ?_
  refine run_seq ?_
  refine run_region (q_move .n (.t rfl) rfl <|
      q_move .n (.t rfl) rfl <|
      q_callM (full := false) [(0, 200)] [(100, 201)] .n rfl .f en_45 (.cons (.t rfl) (.cons (.t rfl) .nil)) (.cons (.b (.mutp rfl)) (.cons (.b (.a (.same rfl))) .nil)) (c_spec_l27Changed (m_spec_l00From code) list (by (try dsimp only); (with_reducible (first | apply Lim.mono | apply Lim.out | apply LimA.mono)); (repeat (with_reducible (first | assumption | apply Lim.one | apply Lim.pick | apply Lim.bif1 | apply Lim.text | apply Lim.dstate | apply Lim.chg | apply Lim.from | apply Lim.mk))); omega) (by omega)) ⟨rfl, trivial⟩ rfl rfl (fun h => Bool.noConfusion h) (fun h => Bool.noConfusion h) rfl <|
      q_assign .n (.t rfl) rfl <|
      Lex.nil) ?_
  exact run_ret [(100, 201)] (.cons (.t rfl rfl) .nil) (by first | rfl | (simp only [put_len]; rfl)) ⟨rfl, trivial⟩ rfl

/-! ### impl_valueAt -/
theorem c_impl_valueAt (list : List gSetting) (name : List UInt8) : Con Tryd.prog 47 [.sl 2 (list.map gSetting.v), .str name] [] (.tup [.int .i64 (m_impl_valueAt list name).1, .bool (m_impl_valueAt list name).2]) ([]) := by
  refine con_intro (out := fun r : Int × Bool => ((.tup [.int .i64 r.1, .bool r.2] : V), ([] : List (Nat × Option O)))) (r := (m_impl_valueAt list name)) Tryd.func47 rfl Tryd.ntmps47 rfl ?_
  refine run_fact (t := 0) rfl fun hl => ?_
  have l1 := hl; clear hl; simp only [List.length_map] at l1
  refine run_seq ?_
  refine run_region (q_assign .n (.c rfl) rfl <|
      q_assign .n (.c rfl) rfl <|
      Lex.nil) ?_
  refine run_seq ?_
  refine run_seq ?_
  refine run_region (q_move .n (.t rfl) rfl <|
      q_len .n (.t rfl) rfl len_map ss_34 rfl <|
      q_move .n (.c rfl) rfl <|
      Lex.nil) ?_
  refine run_block ?_
  refine run_LOOP (m_impl_valueAt_b1 list name) _ _ _ rfl (fun (x1 : Int) => 0 ≤ x1 ∧ x1 ≤ (list.length : Int)) (fun x1 => 0 ≤ x1 ∧ x1 ≤ (list.length : Int) ∧ (list.length : Int) ≤ x1) (fun x1 => ((list.length : Int) - x1 : Int).toNat) (fun x1 => ⟨[(1, some (true, .str name)), (8, some (true, .sl 2 (list.map gSetting.v))), (9, some (true, .int .i64 (list.length : Int))), (10, some (true, .int .i64 x1))], []⟩) (fun x1 => ⟨[], []⟩) ⟨by omega, by omega⟩ (by omega) (sub_of [] ⟨rfl, rfl, rfl, rfl, trivial⟩ trivial rfl) ?_ ?_
  · intro x1 i6
    obtain ⟨e7, e8, e9⟩ := i6
    try dsimp only at *
    refine run_seq ?_
    refine run_region (q_assign .n (.c rfl) rfl <|
        q_assign .n (.c rfl) rfl <|
        Lex.nil) ?_
    exact run_ret [] (.cons (.t rfl rfl) (.cons (.t rfl rfl) .nil)) rfl trivial rfl
  · intro rec1 k1 hk2 x1 i3
    obtain ⟨e10, e11⟩ := i3
    try dsimp only at *
    refine run_seq ?_
    refine run_region (q_int .n (.t rfl) (.t rfl) rfl rfl <|
        Lex.nil) ?_
    refine run_seq ?_
    refine run_cond (.t rfl) rfl (fun h4 => ?_) (fun h4 => ?_)
    · try simp only [Bool.and_eq_true, Bool.or_eq_true, Bool.not_eq_true', Bool.and_eq_false_iff, Bool.or_eq_false_iff, Bool.not_eq_false', decide_eq_true_eq, decide_eq_false_iff_not, beq_iff_eq, bne_iff_ne, beq_eq_false_iff_ne, bne_eq_false_iff_eq, Bool.true_and, ne_eq, Decidable.not_not, Int.not_lt, Int.not_le, Nat.not_lt, Nat.not_le, strB_nil, strB_nil', strB_nnil, strB_nnil'] at h4
      refine run_skip ?_
      refine run_seq ?_
      refine run_block ?_
      refine run_seq ?_
      refine run_region (q_idx_rm .n (.t rfl) (.t rfl) sl_34 (fun _ => by omega) rfl <|
          q_ldN_ro .n (.t rfl) ag_75 rfl rfl rfl <|
          q_alloc (l := 200) .n rfl zv_75 rfl rfl <|
          q_st_boxm [.str (at' list x1).Name, .int .i64 (at' list x1).Value] .n rfl (.t rfl) (.t rfl) rfl ts_75 rfl rfl <|
          Lex.nil) ?_
      refine run_seq ?_
      refine run_region (q_fld_ow .n (.t rfl) fo_75_0 rfl <|
          q_ld1_ow .n (.t rfl) rfl (.inr rfl) (fun _ => rfl) rfl ic_9 rfl <|
          q_move .n (.t rfl) rfl <|
          q_strcmp .n (.t rfl) (.t rfl) rfl rfl <|
          Lex.nil) ?_
      refine run_cond (.t rfl) rfl (fun h5 => ?_) (fun h5 => ?_)
      · try simp only [Bool.and_eq_true, Bool.or_eq_true, Bool.not_eq_true', Bool.and_eq_false_iff, Bool.or_eq_false_iff, Bool.not_eq_false', decide_eq_true_eq, decide_eq_false_iff_not, beq_iff_eq, bne_iff_ne, beq_eq_false_iff_ne, bne_eq_false_iff_eq, Bool.true_and, ne_eq, Decidable.not_not, Int.not_lt, Int.not_le, Nat.not_lt, Nat.not_le, strB_nil, strB_nil', strB_nnil, strB_nnil'] at h5
        refine run_seq ?_
        refine run_region (q_fld_ow .n (.t rfl) fo_75_1 rfl <|
            q_ld1_ow .n (.t rfl) rfl (.inr rfl) (fun _ => rfl) rfl ic_2 rfl <|
            q_assign .n (.t rfl) rfl <|
            q_assign .n (.c rfl) rfl <|
            Lex.nil) ?_
        exact run_ret [] (.cons (.t rfl rfl) (.cons (.t rfl rfl) .nil)) rfl trivial rfl
      · try simp only [Bool.and_eq_true, Bool.or_eq_true, Bool.not_eq_true', Bool.and_eq_false_iff, Bool.or_eq_false_iff, Bool.not_eq_false', decide_eq_true_eq, decide_eq_false_iff_not, beq_iff_eq, bne_iff_ne, beq_eq_false_iff_ne, bne_eq_false_iff_eq, Bool.true_and, ne_eq, Decidable.not_not, Int.not_lt, Int.not_le, Nat.not_lt, Nat.not_le, strB_nil, strB_nil', strB_nnil, strB_nnil'] at h5
        refine run_skip ?_
        refine run_endB ?_
        refine run_region (q_add .n (.t rfl) (.c rfl) (fun _ => by omega) rfl <|
            q_move .n (.t rfl) rfl <|
            Lex.nil) ?_
        exact run_again (x1 + 1) ⟨by omega, by omega⟩ (by omega) (sub_of [] ⟨rfl, rfl, rfl, rfl, trivial⟩ trivial rfl)
    · try simp only [Bool.and_eq_true, Bool.or_eq_true, Bool.not_eq_true', Bool.and_eq_false_iff, Bool.or_eq_false_iff, Bool.not_eq_false', decide_eq_true_eq, decide_eq_false_iff_not, beq_iff_eq, bne_iff_ne, beq_eq_false_iff_ne, bne_eq_false_iff_eq, Bool.true_and, ne_eq, Decidable.not_not, Int.not_lt, Int.not_le, Nat.not_lt, Nat.not_le, strB_nil, strB_nil', strB_nnil, strB_nnil'] at h4
      refine run_exit rfl ?_
      exact run_cont hk2 x1 ⟨by omega, by omega, by omega⟩ (sub_of [] trivial trivial rfl)


end Go.Proofs.YtdkkcemlnjlebaaDoor
