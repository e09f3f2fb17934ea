/-
  THE WALKS: each Go function computes its model. Conditions: as each theorem states them (hp1, hp2 ..).
-/
import Derived.Test.YtdhehmaglhobjaaExactMergeStatesPlain16
import Derived.Test.YtdhehmaglhobjaaProg
import Derived.Test.YtdhehmaglhobjaaEngT
import Derived.Test.YtdhehmaglhobjaaEngP
set_option linter.unusedVariables false
set_option linter.unusedSimpArgs false
set_option linter.unusedSectionVars false
set_option linter.unnecessarySimpa false
namespace Go.Proofs.Ytdhehmaglhobjaa
open Go Go.RowKit Go.Proofs Go.Proofs.Ytdhehmaglhobjaa.E
theorem fo_62_0 : fldOff Try.prog 62 0 = some 0 := by kernel_rfl
theorem ic_9 : isCell Try.prog 9 = true := by kernel_rfl
theorem st_9 : isStr Try.prog 9 = true := by kernel_rfl
theorem ss_37 : (slEl Try.prog 37).isSome = true := by kernel_rfl
theorem sl_37 : slEl Try.prog 37 = some (62, 2) := by kernel_rfl
theorem ag_62 : aggSz Try.prog 62 = some 2 := by kernel_rfl
theorem en_42 : entB Try.prog 42 = true := by kernel_rfl
theorem zv_65 : zeroV Try.prog 65 = some (.st [.str ([] : List UInt8), .int .i64 0]) := by kernel_rfl
theorem fo_65_0 : fldOff Try.prog 65 0 = some 0 := by kernel_rfl
theorem ts_9 : tySz Try.prog 9 = some 1 := by kernel_rfl
theorem fo_62_1 : fldOff Try.prog 62 1 = some 1 := by kernel_rfl
theorem ic_2 : isCell Try.prog 2 = true := by kernel_rfl
theorem fo_65_1 : fldOff Try.prog 65 1 = some 1 := by kernel_rfl
theorem ts_2 : tySz Try.prog 2 = some 1 := by kernel_rfl
theorem ag_65 : aggSz Try.prog 65 = some 2 := by kernel_rfl
theorem ts_65 : tySz Try.prog 65 = some 2 := by kernel_rfl
theorem si_40 : slInfo Try.prog 40 = some (65, 2, 24) := by kernel_rfl
theorem en_45 : entB Try.prog 45 = true := by kernel_rfl
theorem sl_40 : slEl Try.prog 40 = some (65, 2) := by kernel_rfl
theorem ss_40 : (slEl Try.prog 40).isSome = true := by kernel_rfl
theorem en_48 : entB Try.prog 48 = true := by kernel_rfl
theorem fmo : Try.prog.follows .mixedOrders = true := by kernel_rfl
theorem cv_3_5 : cvInt Try.prog 3 5 = some .u8 := by kernel_rfl
theorem si_86 : slInfo Try.prog 86 = some (5, 1, 1) := by kernel_rfl
theorem zv_5 : zeroV Try.prog 5 = some (.int .u8 0) := by kernel_rfl
theorem bs_86_9 : b2sOk Try.prog 86 9 = true := by kernel_rfl
theorem en_41 : entB Try.prog 41 = true := by kernel_rfl
theorem en_101 : entB Try.prog 101 = true := by kernel_rfl
theorem en_102 : entB Try.prog 102 = true := by kernel_rfl
theorem en_78 : entB Try.prog 78 = true := by kernel_rfl
theorem en_79 : entB Try.prog 79 = true := by kernel_rfl
theorem en_65 : entB Try.prog 65 = true := by kernel_rfl
theorem en_85 : entB Try.prog 85 = true := by kernel_rfl
theorem si_30 : slInfo Try.prog 30 = some (9, 1, 16) := by kernel_rfl
theorem zv_9 : zeroV Try.prog 9 = some (.str ([] : List UInt8)) := by kernel_rfl
theorem en_86 : entB Try.prog 86 = true := by kernel_rfl
theorem pl_65 : places Try.prog 65 = some [(0, 1), (1, 1)] := by kernel_rfl
theorem en_66 : entB Try.prog 66 = true := by kernel_rfl
theorem ss_30 : (slEl Try.prog 30).isSome = true := by kernel_rfl
theorem sl_30 : slEl Try.prog 30 = some (9, 1) := by kernel_rfl
theorem en_67 : entB Try.prog 67 = true := by kernel_rfl
theorem en_44 : entB Try.prog 44 = true := by kernel_rfl
theorem en_43 : entB Try.prog 43 = true := by kernel_rfl
theorem en_49 : entB Try.prog 49 = true := by kernel_rfl
theorem en_103 : entB Try.prog 103 = true := by kernel_rfl
theorem en_81 : entB Try.prog 81 = true := by kernel_rfl
theorem en_80 : entB Try.prog 80 = true := by kernel_rfl
theorem en_68 : entB Try.prog 68 = true := by kernel_rfl
theorem ss_92 : (slEl Try.prog 92).isSome = true := by kernel_rfl
theorem sl_92 : slEl Try.prog 92 = some (40, 1) := by kernel_rfl
theorem ic_40 : isCell Try.prog 40 = true := by kernel_rfl
theorem en_63 : entB Try.prog 63 = true := by kernel_rfl
theorem en_64 : entB Try.prog 64 = true := by kernel_rfl
theorem en_87 : entB Try.prog 87 = true := by kernel_rfl
theorem zv_70 : zeroV Try.prog 70 = some (.st [.int .i64 0, .bool false]) := by kernel_rfl
theorem en_71 : entB Try.prog 71 = true := by kernel_rfl
theorem pl_70 : places Try.prog 70 = some [(0, 1), (1, 1)] := by kernel_rfl
theorem ts_70 : tySz Try.prog 70 = some 2 := by kernel_rfl
theorem ag_70 : aggSz Try.prog 70 = some 2 := by kernel_rfl
theorem en_51 : entB Try.prog 51 = true := by kernel_rfl
theorem si_92 : slInfo Try.prog 92 = some (40, 1, 24) := by kernel_rfl
theorem zv_40 : zeroV Try.prog 40 = some (.nls) := by kernel_rfl
theorem en_50 : entB Try.prog 50 = true := by kernel_rfl
theorem en_70 : entB Try.prog 70 = true := by kernel_rfl
theorem en_69 : entB Try.prog 69 = true := by kernel_rfl
theorem en_46 : entB Try.prog 46 = true := by kernel_rfl
theorem en_47 : entB Try.prog 47 = true := by kernel_rfl
theorem fo_70_1 : fldOff Try.prog 70 1 = some 1 := by kernel_rfl
theorem ic_4 : isCell Try.prog 4 = true := by kernel_rfl
theorem fo_70_0 : fldOff Try.prog 70 0 = some 0 := by kernel_rfl
theorem en_19 : entB Try.prog 19 = true := by kernel_rfl
theorem en_21 : entB Try.prog 21 = true := by kernel_rfl
theorem en_25 : entB Try.prog 25 = true := by kernel_rfl
theorem en_26 : entB Try.prog 26 = true := by kernel_rfl
theorem en_23 : entB Try.prog 23 = true := by kernel_rfl
theorem en_24 : entB Try.prog 24 = true := by kernel_rfl
theorem en_27 : entB Try.prog 27 = true := by kernel_rfl

/-! ### laws_szSetting -/
theorem c_laws_szSetting (a : gSetting) (left : Int) : Con Try.prog 42 [.st [.str a.Name, .int .i64 a.Value], .int .i64 left] [] (.int .i64 (m_laws_szSetting a left)) ([]) := by
  refine con_intro (out := fun r : Int => ((.int .i64 r : V), ([] : List (Nat × Option O)))) (r := (m_laws_szSetting a left)) Try.func42 rfl Try.ntmps42 rfl ?_
  refine run_seq ?_
  refine run_region (q_box (l := 200) .n rfl (.t rfl) rfl rfl rfl rfl <|
      q_assign .n (.c rfl) rfl <|
      Lex.nil) ?_
  refine run_seq ?_
  refine run_region (q_move .n (.t rfl) rfl <|
      q_fld_ow .n (.t rfl) fo_62_0 rfl <|
      q_ld1_ow .n (.t rfl) rfl (.inr rfl) (fun _ => rfl) rfl ic_9 rfl <|
      q_len .n (.t rfl) rfl rfl st_9 rfl <|
      q_int .n (.t rfl) (.t rfl) rfl rfl <|
      q_assign .n (.t rfl) rfl <|
      Lex.nil) ?_
  refine run_seq ?_
  refine run_seq ?_
  refine run_region (q_move .n (.t rfl) rfl <|
      q_int .n (.t rfl) (.c rfl) rfl rfl <|
      Lex.nil) ?_
  refine run_cond (.t rfl) rfl (fun h1 => ?_) (fun h1 => ?_)
  · try simp only [Bool.and_eq_true, Bool.or_eq_true, Bool.not_eq_true', Bool.and_eq_false_iff, Bool.or_eq_false_iff, Bool.not_eq_false', decide_eq_true_eq, decide_eq_false_iff_not, beq_iff_eq, bne_iff_ne, beq_eq_false_iff_ne, bne_eq_false_iff_eq, Bool.true_and, ne_eq, Decidable.not_not, Int.not_lt, Int.not_le, Nat.not_lt, Nat.not_le, strB_nil, strB_nil', strB_nnil, strB_nnil'] at h1
    refine run_seq ?_
    refine run_region (q_assign .n (.c rfl) rfl <|
        Lex.nil) ?_
    exact run_ret [] (.cons (.t rfl rfl) .nil) rfl trivial rfl
  · try simp only [Bool.and_eq_true, Bool.or_eq_true, Bool.not_eq_true', Bool.and_eq_false_iff, Bool.or_eq_false_iff, Bool.not_eq_false', decide_eq_true_eq, decide_eq_false_iff_not, beq_iff_eq, bne_iff_ne, beq_eq_false_iff_ne, bne_eq_false_iff_eq, Bool.true_and, ne_eq, Decidable.not_not, Int.not_lt, Int.not_le, Nat.not_lt, Nat.not_le, strB_nil, strB_nil', strB_nnil, strB_nnil'] at h1
    refine run_skip ?_
    refine run_seq ?_
    refine run_region (q_move .n (.t rfl) rfl <|
        q_assign .n (.t rfl) rfl <|
        Lex.nil) ?_
    exact run_ret [] (.cons (.t rfl rfl) .nil) rfl trivial rfl

/-! ### laws_szSettingS -/
theorem c_laws_szSettingS (a : List gSetting) (left : Int) : Con Try.prog 19 [.sl 2 (a.map gSetting.v), .int .i64 left] [] (.int .i64 (m_laws_szSettingS a left)) ([]) := by
  refine con_intro (out := fun r : Int => ((.int .i64 r : V), ([] : List (Nat × Option O)))) (r := (m_laws_szSettingS a left)) Try.func19 rfl Try.ntmps19 rfl ?_
  refine run_fact (t := 0) rfl fun hl => ?_
  have l1 := hl; clear hl; simp only [List.length_map] at l1
  refine run_seq ?_
  refine run_region (q_assign .n (.c rfl) rfl <|
      Lex.nil) ?_
  refine run_seq ?_
  refine run_region (q_move .n (.t rfl) rfl <|
      q_move .n (.t rfl) rfl <|
      q_len .n (.t rfl) rfl len_map ss_37 rfl <|
      q_int .n (.t rfl) (.t rfl) rfl rfl <|
      q_assign .n (.t rfl) rfl <|
      Lex.nil) ?_
  refine run_seq ?_
  refine run_seq ?_
  refine run_region (q_move .n (.t rfl) rfl <|
      q_int .n (.t rfl) (.c rfl) rfl rfl <|
      Lex.nil) ?_
  refine run_cond (.t rfl) rfl (fun h2 => ?_) (fun h2 => ?_)
  · try simp only [Bool.and_eq_true, Bool.or_eq_true, Bool.not_eq_true', Bool.and_eq_false_iff, Bool.or_eq_false_iff, Bool.not_eq_false', decide_eq_true_eq, decide_eq_false_iff_not, beq_iff_eq, bne_iff_ne, beq_eq_false_iff_ne, bne_eq_false_iff_eq, Bool.true_and, ne_eq, Decidable.not_not, Int.not_lt, Int.not_le, Nat.not_lt, Nat.not_le, strB_nil, strB_nil', strB_nnil, strB_nnil'] at h2
    refine run_seq ?_
    refine run_region (q_assign .n (.c rfl) rfl <|
        Lex.nil) ?_
    exact run_ret [] (.cons (.t rfl rfl) .nil) rfl trivial rfl
  · try simp only [Bool.and_eq_true, Bool.or_eq_true, Bool.not_eq_true', Bool.and_eq_false_iff, Bool.or_eq_false_iff, Bool.not_eq_false', decide_eq_true_eq, decide_eq_false_iff_not, beq_iff_eq, bne_iff_ne, beq_eq_false_iff_ne, bne_eq_false_iff_eq, Bool.true_and, ne_eq, Decidable.not_not, Int.not_lt, Int.not_le, Nat.not_lt, Nat.not_le, strB_nil, strB_nil', strB_nnil, strB_nnil'] at h2
    refine run_skip ?_
    refine run_seq ?_
    refine run_seq ?_
    refine run_region (q_assign .n (.c rfl) rfl <|
        Lex.nil) ?_
    refine run_block ?_
    refine run_LOOP (m_laws_szSettingS_b1 a left) _ _ _ rfl (fun (x1 : Int × Int) => 0 ≤ x1.2 ∧ x1.2 ≤ (a.length : Int)) (fun x1 => 0 ≤ x1.2 ∧ x1.2 ≤ (a.length : Int) ∧ (a.length : Int) ≤ x1.2) (fun x1 => ((a.length : Int) - x1.2 : Int).toNat) (fun x1 => ⟨[(0, some (true, .sl 2 (a.map gSetting.v))), (1, some (true, .int .i64 x1.1)), (5, some (true, .int .i64 x1.2))], []⟩) (fun x1 => ⟨[(1, some (true, .int .i64 x1.1))], []⟩) ⟨by first | omega | assumption | (simp only [List.length_append, List.length_cons, List.length_nil, List.length_replicate, put_len] at * <;> omega), by first | omega | assumption | (simp only [List.length_append, List.length_cons, List.length_nil, List.length_replicate, put_len] at * <;> omega)⟩ (by first | omega | assumption | (simp only [List.length_append, List.length_cons, List.length_nil, List.length_replicate, put_len] at * <;> omega)) (sub_of [] ⟨rfl, rfl, rfl, trivial⟩ trivial rfl) ?_ ?_
    · intro x1 i7
      obtain ⟨e8, e9, e10⟩ := i7
      try dsimp only at *
      refine run_seq ?_
      refine run_region (q_move .n (.t rfl) rfl <|
          q_assign .n (.t rfl) rfl <|
          Lex.nil) ?_
      exact run_ret [] (.cons (.t rfl rfl) .nil) rfl trivial rfl
    · intro rec1 k1 hk3 x1 i4
      obtain ⟨e11, e12⟩ := i4
      try dsimp only at *
      refine run_seq ?_
      refine run_seq ?_
      refine run_region (q_move .n (.t rfl) rfl <|
          q_move .n (.t rfl) rfl <|
          q_len .n (.t rfl) rfl len_map ss_37 rfl <|
          q_int .n (.t rfl) (.t rfl) rfl rfl <|
          Lex.nil) ?_
      refine run_cond (.t rfl) rfl (fun h5 => ?_) (fun h5 => ?_)
      · try simp only [Bool.and_eq_true, Bool.or_eq_true, Bool.not_eq_true', Bool.and_eq_false_iff, Bool.or_eq_false_iff, Bool.not_eq_false', decide_eq_true_eq, decide_eq_false_iff_not, beq_iff_eq, bne_iff_ne, beq_eq_false_iff_ne, bne_eq_false_iff_eq, Bool.true_and, ne_eq, Decidable.not_not, Int.not_lt, Int.not_le, Nat.not_lt, Nat.not_le, strB_nil, strB_nil', strB_nnil, strB_nnil'] at h5
        refine run_skip ?_
        refine run_seq ?_
        refine run_block ?_
        refine run_seq ?_
        refine run_region (q_move .n (.t rfl) rfl <|
            q_move .n (.t rfl) rfl <|
            q_idx_rm .n (.t rfl) (.t rfl) sl_37 (fun _ => by first | omega | assumption | (simp only [List.length_append, List.length_cons, List.length_nil, List.length_replicate, put_len] at * <;> omega)) rfl <|
            q_ldN_ro .n (.t rfl) ag_62 rfl rfl rfl <|
            q_move .n (.t rfl) rfl <|
            q_call0 (full := false) .n .f en_42 (.cons (.t rfl) (.cons (.t rfl) .nil)) (.cons (.sts rfl) (.cons (.b (.a (.same rfl))) .nil)) (fun hg => c_laws_szSetting (at' a x1.2) x1.1) rfl (fun h => Bool.noConfusion h) rfl <|
            q_assign .n (.t rfl) rfl <|
            Lex.nil) ?_
        refine run_seq ?_
        refine run_region (q_move .n (.t rfl) rfl <|
            q_int .n (.t rfl) (.c rfl) rfl rfl <|
            Lex.nil) ?_
        refine run_cond (.t rfl) rfl (fun h6 => ?_) (fun h6 => ?_)
        · try simp only [Bool.and_eq_true, Bool.or_eq_true, Bool.not_eq_true', Bool.and_eq_false_iff, Bool.or_eq_false_iff, Bool.not_eq_false', decide_eq_true_eq, decide_eq_false_iff_not, beq_iff_eq, bne_iff_ne, beq_eq_false_iff_ne, bne_eq_false_iff_eq, Bool.true_and, ne_eq, Decidable.not_not, Int.not_lt, Int.not_le, Nat.not_lt, Nat.not_le, strB_nil, strB_nil', strB_nnil, strB_nnil'] at h6
          try have hf0h6 := szSetting_impA (by assumption) (by omega) (by omega) h6
          try have hf1h6 := szSetting_impA (by assumption) (by omega) (by omega) h6.1
          try have hf2h6 := szSetting_impA (by assumption) (by omega) (by omega) h6.2
          try have hf3h6 := szSetting_impA (by assumption) (by omega) (by omega) h6.1.1
          try have hf4h6 := szSetting_impA (by assumption) (by omega) (by omega) h6.1.2
          try have hf5h6 := szSetting_impA (by assumption) (by omega) (by omega) h6.2.1
          try have hf6h6 := szSetting_impA (by assumption) (by omega) (by omega) h6.2.2
          try have hf7h6 := szSetting_impB (by assumption) (by omega) (by omega) h6
          try have hf8h6 := szSetting_impB (by assumption) (by omega) (by omega) h6.1
          try have hf9h6 := szSetting_impB (by assumption) (by omega) (by omega) h6.2
          try have hf10h6 := szSetting_impB (by assumption) (by omega) (by omega) h6.1.1
          try have hf11h6 := szSetting_impB (by assumption) (by omega) (by omega) h6.1.2
          try have hf12h6 := szSetting_impB (by assumption) (by omega) (by omega) h6.2.1
          try have hf13h6 := szSetting_impB (by assumption) (by omega) (by omega) h6.2.2
          refine run_seq ?_
          refine run_region (q_assign .n (.c rfl) rfl <|
              Lex.nil) ?_
          exact run_ret [] (.cons (.t rfl rfl) .nil) rfl trivial rfl
        · try simp only [Bool.and_eq_true, Bool.or_eq_true, Bool.not_eq_true', Bool.and_eq_false_iff, Bool.or_eq_false_iff, Bool.not_eq_false', decide_eq_true_eq, decide_eq_false_iff_not, beq_iff_eq, bne_iff_ne, beq_eq_false_iff_ne, bne_eq_false_iff_eq, Bool.true_and, ne_eq, Decidable.not_not, Int.not_lt, Int.not_le, Nat.not_lt, Nat.not_le, strB_nil, strB_nil', strB_nnil, strB_nnil'] at h6
          try have hf0h6 := szSetting_impA (by assumption) (by omega) (by omega) h6
          try have hf1h6 := szSetting_impA (by assumption) (by omega) (by omega) h6.1
          try have hf2h6 := szSetting_impA (by assumption) (by omega) (by omega) h6.2
          try have hf3h6 := szSetting_impA (by assumption) (by omega) (by omega) h6.1.1
          try have hf4h6 := szSetting_impA (by assumption) (by omega) (by omega) h6.1.2
          try have hf5h6 := szSetting_impA (by assumption) (by omega) (by omega) h6.2.1
          try have hf6h6 := szSetting_impA (by assumption) (by omega) (by omega) h6.2.2
          try have hf7h6 := szSetting_impB (by assumption) (by omega) (by omega) h6
          try have hf8h6 := szSetting_impB (by assumption) (by omega) (by omega) h6.1
          try have hf9h6 := szSetting_impB (by assumption) (by omega) (by omega) h6.2
          try have hf10h6 := szSetting_impB (by assumption) (by omega) (by omega) h6.1.1
          try have hf11h6 := szSetting_impB (by assumption) (by omega) (by omega) h6.1.2
          try have hf12h6 := szSetting_impB (by assumption) (by omega) (by omega) h6.2.1
          try have hf13h6 := szSetting_impB (by assumption) (by omega) (by omega) h6.2.2
          refine run_skip ?_
          refine run_endB ?_
          refine run_region (q_move .n (.t rfl) rfl <|
              q_add .n (.t rfl) (.c rfl) (fun _ => by first | omega | assumption | (simp only [List.length_append, List.length_cons, List.length_nil, List.length_replicate, put_len] at * <;> omega)) rfl <|
              q_assign .n (.t rfl) rfl <|
              Lex.nil) ?_
          exact run_again (m_laws_szSetting (at' a x1.2) x1.1, x1.2 + 1) ⟨by first | omega | assumption | (simp only [List.length_append, List.length_cons, List.length_nil, List.length_replicate, put_len] at * <;> omega), by first | omega | assumption | (simp only [List.length_append, List.length_cons, List.length_nil, List.length_replicate, put_len] at * <;> omega)⟩ (by first | omega | assumption | (simp only [List.length_append, List.length_cons, List.length_nil, List.length_replicate, put_len] at * <;> omega)) (sub_of [] ⟨rfl, rfl, rfl, trivial⟩ trivial rfl)
      · try simp only [Bool.and_eq_true, Bool.or_eq_true, Bool.not_eq_true', Bool.and_eq_false_iff, Bool.or_eq_false_iff, Bool.not_eq_false', decide_eq_true_eq, decide_eq_false_iff_not, beq_iff_eq, bne_iff_ne, beq_eq_false_iff_ne, bne_eq_false_iff_eq, Bool.true_and, ne_eq, Decidable.not_not, Int.not_lt, Int.not_le, Nat.not_lt, Nat.not_le, strB_nil, strB_nil', strB_nnil, strB_nnil'] at h5
        refine run_exit rfl ?_
        exact run_cont hk3 (x1.1, x1.2) ⟨by first | omega | assumption | (simp only [List.length_append, List.length_cons, List.length_nil, List.length_replicate, put_len] at * <;> omega), by first | omega | assumption | (simp only [List.length_append, List.length_cons, List.length_nil, List.length_replicate, put_len] at * <;> omega), by first | omega | assumption | (simp only [List.length_append, List.length_cons, List.length_nil, List.length_replicate, put_len] at * <;> omega)⟩ (sub_of [] ⟨rfl, trivial⟩ trivial rfl)

/-! ### laws_toSetting -/
theorem c_laws_toSetting (a : gSetting) : Con Try.prog 45 [.st [.str a.Name, .int .i64 a.Value]] [] (.st [.str (m_laws_toSetting a).Name, .int .i64 (m_laws_toSetting a).Value]) ([]) := by
  refine con_intro (out := fun r : gSetting => ((.st [.str r.Name, .int .i64 r.Value] : V), ([] : List (Nat × Option O)))) (r := (m_laws_toSetting a)) Try.func45 rfl Try.ntmps45 rfl ?_
  refine run_seq ?_
  refine run_region (q_box (l := 200) .n rfl (.t rfl) rfl rfl rfl rfl <|
      q_alloc (l := 201) .n rfl zv_65 rfl rfl <|
      Lex.nil) ?_
  refine run_seq ?_
  refine run_region (q_alloc (l := 202) .n rfl zv_65 rfl rfl <|
      Lex.nil) ?_
  refine run_seq ?_
  refine run_region (q_fld_ow .n (.t rfl) fo_62_0 rfl <|
      q_ld1_ow .n (.t rfl) rfl (.inr rfl) (fun _ => rfl) rfl ic_9 rfl <|
      q_fld_ow .n (.t rfl) fo_65_0 rfl <|
      q_st_boxm [.str a.Name, .int .i64 0] .n rfl (.t rfl) (.t rfl) rfl ts_9 rfl rfl <|
      Lex.nil) ?_
  refine run_seq ?_
  refine run_region (q_fld_ow .n (.t rfl) fo_62_1 rfl <|
      q_ld1_ow .n (.t rfl) rfl (.inr rfl) (fun _ => rfl) rfl ic_2 rfl <|
      q_fld_ow .n (.t rfl) fo_65_1 rfl <|
      q_st_boxm [.str a.Name, .int .i64 a.Value] .n rfl (.t rfl) (.t rfl) rfl ts_2 rfl rfl <|
      Lex.nil) ?_
  refine run_seq ?_
  refine run_region (q_ldN_ow .n (.t rfl) rfl (.inr rfl) ag_65 (fun _ => rfl) rfl rfl <|
      q_st_boxm [.str a.Name, .int .i64 a.Value] .n rfl (.t rfl) (.t rfl) rfl ts_65 rfl rfl <|
      Lex.nil) ?_
  exact run_ret [] (.cons (.cN rfl rfl ag_65 rfl rfl) .nil) (by first | rfl | (simp only [put_len]; rfl)) trivial rfl

/-! ### laws_toSettingS -/
theorem c_laws_toSettingS (a : List gSetting) (hp1 : a.length ≤ 1048576 ∧ ∀ y ∈ a, gSetting.sz y) : Con Try.prog 21 [.sl 2 (a.map gSetting.v)] [] (.os 100 (m_laws_toSettingS a).length) ([(100, some (.row 65 2 ((m_laws_toSettingS a).map gSetting.v)))]) := by
  refine con_intro (out := fun r : (List gSetting) => ((.os 100 r.length : V), ([(100, some (.row 65 2 (r.map gSetting.v)))] : List (Nat × Option O)))) (r := (m_laws_toSettingS a)) Try.func21 rfl Try.ntmps21 rfl ?_
  refine run_fact (t := 0) rfl fun hl => ?_
  have l1 := hl; clear hl; simp only [List.length_map] at l1
  refine run_seq ?_
  refine run_region (q_assign .n (.c rfl) rfl <|
      Lex.nil) ?_
  refine run_seq ?_
  refine run_region (q_move .n (.t rfl) rfl <|
      q_len .n (.t rfl) rfl len_map ss_37 rfl <|
      q_makem (f := gSetting.v) (l := 200) (gSetting.mk ([] : List UInt8) 0 : gSetting) .n rfl (.t rfl) (.t rfl) si_40 zv_65 (by first | omega | assumption | (simp only [List.length_append, List.length_cons, List.length_nil, List.length_replicate, put_len] at * <;> omega) | (exact hp1.2) | (exact at_all hp1.2 (by omega)) | (exact hp1.1) | (exact hp1)) rfl rfl rfl <|
      q_assign .n (.t rfl) rfl <|
      Lex.nil) ?_
  refine run_seq ?_
  refine run_seq ?_
  refine run_region (q_assign .n (.c rfl) rfl <|
      Lex.nil) ?_
  refine run_block ?_
  refine run_LOOP (m_laws_toSettingS_b1 a) _ _ _ rfl (fun (x1 : (List gSetting) × Int) => 0 ≤ x1.2 ∧ x1.2 ≤ (a.length : Int) ∧ x1.1.length = (List.replicate ((a.length : Int) : Int).toNat (gSetting.mk ([] : List UInt8) 0 : gSetting)).length) (fun x1 => 0 ≤ x1.2 ∧ x1.2 ≤ (a.length : Int) ∧ x1.1.length = (List.replicate ((a.length : Int) : Int).toNat (gSetting.mk ([] : List UInt8) 0 : gSetting)).length ∧ (a.length : Int) ≤ x1.2) (fun x1 => ((a.length : Int) - x1.2 : Int).toNat) (fun x1 => ⟨[(0, some (true, .sl 2 (a.map gSetting.v))), (3, some (true, .os 200 x1.1.length)), (4, some (true, .int .i64 x1.2))], [(200, some (.row 65 2 (x1.1.map gSetting.v)))]⟩) (fun x1 => ⟨[(3, some (true, .os 200 x1.1.length))], [(200, some (.row 65 2 (x1.1.map gSetting.v)))]⟩) ⟨by first | omega | assumption | (simp only [List.length_append, List.length_cons, List.length_nil, List.length_replicate, put_len] at * <;> omega) | (exact hp1.2) | (exact at_all hp1.2 (by omega)) | (exact hp1.1) | (exact hp1), by first | omega | assumption | (simp only [List.length_append, List.length_cons, List.length_nil, List.length_replicate, put_len] at * <;> omega) | (exact hp1.2) | (exact at_all hp1.2 (by omega)) | (exact hp1.1) | (exact hp1), by first | omega | assumption | (simp only [List.length_append, List.length_cons, List.length_nil, List.length_replicate, put_len] at * <;> omega) | (exact hp1.2) | (exact at_all hp1.2 (by omega)) | (exact hp1.1) | (exact hp1)⟩ (by first | omega | assumption | (simp only [List.length_append, List.length_cons, List.length_nil, List.length_replicate, put_len] at * <;> omega) | (exact hp1.2) | (exact at_all hp1.2 (by omega)) | (exact hp1.1) | (exact hp1)) (sub_of [] ⟨rfl, rfl, rfl, trivial⟩ ⟨rfl, trivial⟩ rfl) ?_ ?_
  · intro x1 i5
    obtain ⟨e6, e7, e8, e9⟩ := i5
    try dsimp only at *
    refine run_seq ?_
    refine run_region (q_move .n (.t rfl) rfl <|
        q_assign .n (.t rfl) rfl <|
        Lex.nil) ?_
    exact run_ret [(100, 200)] (.cons (.t rfl rfl) .nil) (by first | rfl | (simp only [put_len]; rfl)) ⟨rfl, trivial⟩ rfl
  · intro rec1 k1 hk2 x1 i3
    obtain ⟨e10, e11, e12⟩ := i3
    try dsimp only at *
    refine run_seq ?_
    refine run_seq ?_
    refine run_region (q_move .n (.t rfl) rfl <|
        q_move .n (.t rfl) rfl <|
        q_len .n (.t rfl) rfl len_map ss_37 rfl <|
        q_int .n (.t rfl) (.t rfl) rfl rfl <|
        Lex.nil) ?_
    refine run_cond (.t rfl) rfl (fun h4 => ?_) (fun h4 => ?_)
    · try simp only [Bool.and_eq_true, Bool.or_eq_true, Bool.not_eq_true', Bool.and_eq_false_iff, Bool.or_eq_false_iff, Bool.not_eq_false', decide_eq_true_eq, decide_eq_false_iff_not, beq_iff_eq, bne_iff_ne, beq_eq_false_iff_ne, bne_eq_false_iff_eq, Bool.true_and, ne_eq, Decidable.not_not, Int.not_lt, Int.not_le, Nat.not_lt, Nat.not_le, strB_nil, strB_nil', strB_nnil, strB_nnil'] at h4
      refine run_skip ?_
      refine run_seq ?_
      refine run_block ?_
      refine run_region (q_move .n (.t rfl) rfl <|
          q_move .n (.t rfl) rfl <|
          q_move .n (.t rfl) rfl <|
          q_move .n (.t rfl) rfl <|
          q_idx_rm .n (.t rfl) (.t rfl) sl_37 (fun _ => by first | omega | assumption | (simp only [List.length_append, List.length_cons, List.length_nil, List.length_replicate, put_len] at * <;> omega) | (exact hp1.2) | (exact at_all hp1.2 (by omega)) | (exact hp1.1) | (exact hp1)) rfl <|
          q_ldN_ro .n (.t rfl) ag_62 rfl rfl rfl <|
          q_call0 (full := false) .n .f en_45 (.cons (.t rfl) .nil) (.cons (.sts rfl) .nil) (fun hg => c_laws_toSetting (at' a x1.2)) rfl (fun h => Bool.noConfusion h) rfl <|
          q_idx_ow .n (.t rfl) (.t rfl) sl_40 (fun _ => by first | omega | assumption | (simp only [List.length_append, List.length_cons, List.length_nil, List.length_replicate, put_len] at * <;> omega) | (exact hp1.2) | (exact at_all hp1.2 (by omega)) | (exact hp1.1) | (exact hp1)) rfl <|
          q_st_rowm (m_laws_toSetting (at' a x1.2)) .n rfl (.t rfl) (.t rfl) rfl ts_65 (by first | omega | assumption | (simp only [List.length_append, List.length_cons, List.length_nil, List.length_replicate, put_len] at * <;> omega) | (exact hp1.2) | (exact at_all hp1.2 (by omega)) | (exact hp1.1) | (exact hp1)) rfl rfl <|
          Lex.nil) ?_
      refine run_endB ?_
      refine run_region (q_move .n (.t rfl) rfl <|
          q_add .n (.t rfl) (.c rfl) (fun _ => by first | omega | assumption | (simp only [List.length_append, List.length_cons, List.length_nil, List.length_replicate, put_len] at * <;> omega) | (exact hp1.2) | (exact at_all hp1.2 (by omega)) | (exact hp1.1) | (exact hp1)) rfl <|
          q_assign .n (.t rfl) rfl <|
          Lex.nil) ?_
      exact run_again (put' x1.1 x1.2 (m_laws_toSetting (at' a x1.2)), x1.2 + 1) ⟨by first | omega | assumption | (simp only [List.length_append, List.length_cons, List.length_nil, List.length_replicate, put_len] at * <;> omega) | (exact hp1.2) | (exact at_all hp1.2 (by omega)) | (exact hp1.1) | (exact hp1), by first | omega | assumption | (simp only [List.length_append, List.length_cons, List.length_nil, List.length_replicate, put_len] at * <;> omega) | (exact hp1.2) | (exact at_all hp1.2 (by omega)) | (exact hp1.1) | (exact hp1), by first | omega | assumption | (simp only [List.length_append, List.length_cons, List.length_nil, List.length_replicate, put_len] at * <;> omega) | (exact hp1.2) | (exact at_all hp1.2 (by omega)) | (exact hp1.1) | (exact hp1)⟩ (by first | omega | assumption | (simp only [List.length_append, List.length_cons, List.length_nil, List.length_replicate, put_len] at * <;> omega) | (exact hp1.2) | (exact at_all hp1.2 (by omega)) | (exact hp1.1) | (exact hp1)) (sub_of [] ⟨rfl, os_len rfl (by first | (simp only [put_len]; done) | (first | omega | assumption | (simp only [List.length_append, List.length_cons, List.length_nil, List.length_replicate, put_len] at * <;> omega) | (exact hp1.2) | (exact at_all hp1.2 (by omega)) | (exact hp1.1) | (exact hp1))), rfl, trivial⟩ ⟨rfl, trivial⟩ rfl)
    · try simp only [Bool.and_eq_true, Bool.or_eq_true, Bool.not_eq_true', Bool.and_eq_false_iff, Bool.or_eq_false_iff, Bool.not_eq_false', decide_eq_true_eq, decide_eq_false_iff_not, beq_iff_eq, bne_iff_ne, beq_eq_false_iff_ne, bne_eq_false_iff_eq, Bool.true_and, ne_eq, Decidable.not_not, Int.not_lt, Int.not_le, Nat.not_lt, Nat.not_le, strB_nil, strB_nil', strB_nnil, strB_nnil'] at h4
      refine run_exit rfl ?_
      exact run_cont hk2 (x1.1, x1.2) ⟨by first | omega | assumption | (simp only [List.length_append, List.length_cons, List.length_nil, List.length_replicate, put_len] at * <;> omega) | (exact hp1.2) | (exact at_all hp1.2 (by omega)) | (exact hp1.1) | (exact hp1), by first | omega | assumption | (simp only [List.length_append, List.length_cons, List.length_nil, List.length_replicate, put_len] at * <;> omega) | (exact hp1.2) | (exact at_all hp1.2 (by omega)) | (exact hp1.1) | (exact hp1), by first | omega | assumption | (simp only [List.length_append, List.length_cons, List.length_nil, List.length_replicate, put_len] at * <;> omega) | (exact hp1.2) | (exact at_all hp1.2 (by omega)) | (exact hp1.1) | (exact hp1), by first | omega | assumption | (simp only [List.length_append, List.length_cons, List.length_nil, List.length_replicate, put_len] at * <;> omega) | (exact hp1.2) | (exact at_all hp1.2 (by omega)) | (exact hp1.1) | (exact hp1)⟩ (sub_of [] ⟨rfl, trivial⟩ ⟨rfl, trivial⟩ rfl)

/-! ### laws_eqSetting -/
theorem c_laws_eqSetting (a : gSetting) (b : gSetting) : Con Try.prog 48 [.st [.str a.Name, .int .i64 a.Value], .st [.str b.Name, .int .i64 b.Value]] [] (.bool (m_laws_eqSetting a b)) ([]) := by
  refine con_intro (out := fun r : Bool => ((.bool r : V), ([] : List (Nat × Option O)))) (r := (m_laws_eqSetting a b)) Try.func48 rfl Try.ntmps48 rfl ?_
  refine run_seq ?_
  refine run_region (q_box (l := 200) .n rfl (.t rfl) rfl rfl rfl rfl <|
      q_box (l := 201) .n rfl (.t rfl) rfl rfl rfl rfl <|
      q_assign .n (.c rfl) rfl <|
      Lex.nil) ?_
  refine run_seq ?_
  refine run_seq ?_
  refine run_region (q_fld_ow .n (.t rfl) fo_65_0 rfl <|
      q_ld1_ow .n (.t rfl) rfl (.inr rfl) (fun _ => rfl) rfl ic_9 rfl <|
      q_fld_ow .n (.t rfl) fo_65_0 rfl <|
      q_ld1_ow .n (.t rfl) rfl (.inr rfl) (fun _ => rfl) rfl ic_9 rfl <|
      q_strcmp .n (.t rfl) (.t rfl) rfl rfl <|
      Lex.nil) ?_
  refine run_cond (.t rfl) rfl (fun h1 => ?_) (fun h1 => ?_)
  · try simp only [Bool.and_eq_true, Bool.or_eq_true, Bool.not_eq_true', Bool.and_eq_false_iff, Bool.or_eq_false_iff, Bool.not_eq_false', decide_eq_true_eq, decide_eq_false_iff_not, beq_iff_eq, bne_iff_ne, beq_eq_false_iff_ne, bne_eq_false_iff_eq, Bool.true_and, ne_eq, Decidable.not_not, Int.not_lt, Int.not_le, Nat.not_lt, Nat.not_le, strB_nil, strB_nil', strB_nnil, strB_nnil'] at h1
    refine run_seq ?_
    refine run_region (q_assign .n (.c rfl) rfl <|
        Lex.nil) ?_
    exact run_ret [] (.cons (.t rfl rfl) .nil) rfl trivial rfl
  · try simp only [Bool.and_eq_true, Bool.or_eq_true, Bool.not_eq_true', Bool.and_eq_false_iff, Bool.or_eq_false_iff, Bool.not_eq_false', decide_eq_true_eq, decide_eq_false_iff_not, beq_iff_eq, bne_iff_ne, beq_eq_false_iff_ne, bne_eq_false_iff_eq, Bool.true_and, ne_eq, Decidable.not_not, Int.not_lt, Int.not_le, Nat.not_lt, Nat.not_le, strB_nil, strB_nil', strB_nnil, strB_nnil'] at h1
    refine run_skip ?_
    refine run_seq ?_
    refine run_seq ?_
    refine run_region (q_fld_ow .n (.t rfl) fo_65_1 rfl <|
        q_ld1_ow .n (.t rfl) rfl (.inr rfl) (fun _ => rfl) rfl ic_2 rfl <|
        q_fld_ow .n (.t rfl) fo_65_1 rfl <|
        q_ld1_ow .n (.t rfl) rfl (.inr rfl) (fun _ => rfl) rfl ic_2 rfl <|
        q_int .n (.t rfl) (.t rfl) rfl rfl <|
        Lex.nil) ?_
    refine run_cond (.t rfl) rfl (fun h2 => ?_) (fun h2 => ?_)
    · try simp only [Bool.and_eq_true, Bool.or_eq_true, Bool.not_eq_true', Bool.and_eq_false_iff, Bool.or_eq_false_iff, Bool.not_eq_false', decide_eq_true_eq, decide_eq_false_iff_not, beq_iff_eq, bne_iff_ne, beq_eq_false_iff_ne, bne_eq_false_iff_eq, Bool.true_and, ne_eq, Decidable.not_not, Int.not_lt, Int.not_le, Nat.not_lt, Nat.not_le, strB_nil, strB_nil', strB_nnil, strB_nnil'] at h2
      refine run_seq ?_
      refine run_region (q_assign .n (.c rfl) rfl <|
          Lex.nil) ?_
      exact run_ret [] (.cons (.t rfl rfl) .nil) rfl trivial rfl
    · try simp only [Bool.and_eq_true, Bool.or_eq_true, Bool.not_eq_true', Bool.and_eq_false_iff, Bool.or_eq_false_iff, Bool.not_eq_false', decide_eq_true_eq, decide_eq_false_iff_not, beq_iff_eq, bne_iff_ne, beq_eq_false_iff_ne, bne_eq_false_iff_eq, Bool.true_and, ne_eq, Decidable.not_not, Int.not_lt, Int.not_le, Nat.not_lt, Nat.not_le, strB_nil, strB_nil', strB_nnil, strB_nnil'] at h2
      refine run_skip ?_
      refine run_seq ?_
      refine run_region (q_assign .n (.c rfl) rfl <|
          Lex.nil) ?_
      exact run_ret [] (.cons (.t rfl rfl) .nil) rfl trivial rfl

/-! ### laws_eqSettingS -/
theorem c_laws_eqSettingS (a : List gSetting) (b : List gSetting) : Con Try.prog 23 [.sl 2 (a.map gSetting.v), .sl 2 (b.map gSetting.v)] [] (.bool (m_laws_eqSettingS a b)) ([]) := by
  refine con_intro (out := fun r : Bool => ((.bool r : V), ([] : List (Nat × Option O)))) (r := (m_laws_eqSettingS a b)) Try.func23 rfl Try.ntmps23 rfl ?_
  refine run_fact (t := 0) rfl fun hl => ?_
  have l1 := hl; clear hl; simp only [List.length_map] at l1
  refine run_fact (t := 1) rfl fun hl => ?_
  have l2 := hl; clear hl; simp only [List.length_map] at l2
  refine run_seq ?_
  refine run_region (q_assign .n (.c rfl) rfl <|
      Lex.nil) ?_
  refine run_seq ?_
  refine run_seq ?_
  refine run_region (q_move .n (.t rfl) rfl <|
      q_len .n (.t rfl) rfl len_map ss_40 rfl <|
      q_move .n (.t rfl) rfl <|
      q_len .n (.t rfl) rfl len_map ss_40 rfl <|
      q_int .n (.t rfl) (.t rfl) rfl rfl <|
      Lex.nil) ?_
  refine run_cond (.t rfl) rfl (fun h3 => ?_) (fun h3 => ?_)
  · try simp only [Bool.and_eq_true, Bool.or_eq_true, Bool.not_eq_true', Bool.and_eq_false_iff, Bool.or_eq_false_iff, Bool.not_eq_false', decide_eq_true_eq, decide_eq_false_iff_not, beq_iff_eq, bne_iff_ne, beq_eq_false_iff_ne, bne_eq_false_iff_eq, Bool.true_and, ne_eq, Decidable.not_not, Int.not_lt, Int.not_le, Nat.not_lt, Nat.not_le, strB_nil, strB_nil', strB_nnil, strB_nnil'] at h3
    refine run_seq ?_
    refine run_region (q_assign .n (.c rfl) rfl <|
        Lex.nil) ?_
    exact run_ret [] (.cons (.t rfl rfl) .nil) rfl trivial rfl
  · try simp only [Bool.and_eq_true, Bool.or_eq_true, Bool.not_eq_true', Bool.and_eq_false_iff, Bool.or_eq_false_iff, Bool.not_eq_false', decide_eq_true_eq, decide_eq_false_iff_not, beq_iff_eq, bne_iff_ne, beq_eq_false_iff_ne, bne_eq_false_iff_eq, Bool.true_and, ne_eq, Decidable.not_not, Int.not_lt, Int.not_le, Nat.not_lt, Nat.not_le, strB_nil, strB_nil', strB_nnil, strB_nnil'] at h3
    refine run_skip ?_
    refine run_seq ?_
    refine run_seq ?_
    refine run_region (q_assign .n (.c rfl) rfl <|
        Lex.nil) ?_
    refine run_block ?_
    refine run_LOOP (m_laws_eqSettingS_b1 a b) _ _ _ rfl (fun (x1 : Int) => 0 ≤ x1 ∧ x1 ≤ (a.length : Int)) (fun x1 => 0 ≤ x1 ∧ x1 ≤ (a.length : Int) ∧ (a.length : Int) ≤ x1) (fun x1 => ((a.length : Int) - x1 : Int).toNat) (fun x1 => ⟨[(0, some (true, .sl 2 (a.map gSetting.v))), (1, some (true, .sl 2 (b.map gSetting.v))), (5, some (true, .int .i64 x1))], []⟩) (fun x1 => ⟨[], []⟩) ⟨by first | omega | assumption | (simp only [List.length_append, List.length_cons, List.length_nil, List.length_replicate, put_len] at * <;> omega), by first | omega | assumption | (simp only [List.length_append, List.length_cons, List.length_nil, List.length_replicate, put_len] at * <;> omega)⟩ (by first | omega | assumption | (simp only [List.length_append, List.length_cons, List.length_nil, List.length_replicate, put_len] at * <;> omega)) (sub_of [] ⟨rfl, rfl, rfl, trivial⟩ trivial rfl) ?_ ?_
    · intro x1 i8
      obtain ⟨e9, e10, e11⟩ := i8
      try dsimp only at *
      refine run_seq ?_
      refine run_region (q_assign .n (.c rfl) rfl <|
          Lex.nil) ?_
      exact run_ret [] (.cons (.t rfl rfl) .nil) rfl trivial rfl
    · intro rec1 k1 hk4 x1 i5
      obtain ⟨e12, e13⟩ := i5
      try dsimp only at *
      refine run_seq ?_
      refine run_seq ?_
      refine run_region (q_move .n (.t rfl) rfl <|
          q_move .n (.t rfl) rfl <|
          q_len .n (.t rfl) rfl len_map ss_40 rfl <|
          q_int .n (.t rfl) (.t rfl) rfl rfl <|
          Lex.nil) ?_
      refine run_cond (.t rfl) rfl (fun h6 => ?_) (fun h6 => ?_)
      · try simp only [Bool.and_eq_true, Bool.or_eq_true, Bool.not_eq_true', Bool.and_eq_false_iff, Bool.or_eq_false_iff, Bool.not_eq_false', decide_eq_true_eq, decide_eq_false_iff_not, beq_iff_eq, bne_iff_ne, beq_eq_false_iff_ne, bne_eq_false_iff_eq, Bool.true_and, ne_eq, Decidable.not_not, Int.not_lt, Int.not_le, Nat.not_lt, Nat.not_le, strB_nil, strB_nil', strB_nnil, strB_nnil'] at h6
        refine run_skip ?_
        refine run_seq ?_
        refine run_block ?_
        refine run_seq ?_
        refine run_draw fmo (q_move .n (.t rfl) rfl <|
            q_move .n (.t rfl) rfl <|
            q_idx_rm .n (.t rfl) (.t rfl) sl_40 (fun _ => by first | omega | assumption | (simp only [List.length_append, List.length_cons, List.length_nil, List.length_replicate, put_len] at * <;> omega)) rfl <|
            q_ldN_ro .n (.t rfl) ag_65 rfl rfl rfl <|
            q_move .n (.t rfl) rfl <|
            q_move .n (.t rfl) rfl <|
            q_idx_rm .n (.t rfl) (.t rfl) sl_40 (fun _ => by first | omega | assumption | (simp only [List.length_append, List.length_cons, List.length_nil, List.length_replicate, put_len] at * <;> omega)) rfl <|
            q_ldN_ro .n (.t rfl) ag_65 rfl rfl rfl <|
            q_call0 (full := false) .n .f en_48 (.cons (.t rfl) (.cons (.t rfl) .nil)) (.cons (.sts rfl) (.cons (.sts rfl) .nil)) (fun hg => c_laws_eqSetting (at' a x1) (at' b x1)) rfl (fun h => Bool.noConfusion h) rfl <|
            q_not .n (.t rfl) rfl <|
            Lex.nil) (by kernel_rfl) ?_
        refine run_cond (.t rfl) rfl (fun h7 => ?_) (fun h7 => ?_)
        · try simp only [Bool.and_eq_true, Bool.or_eq_true, Bool.not_eq_true', Bool.and_eq_false_iff, Bool.or_eq_false_iff, Bool.not_eq_false', decide_eq_true_eq, decide_eq_false_iff_not, beq_iff_eq, bne_iff_ne, beq_eq_false_iff_ne, bne_eq_false_iff_eq, Bool.true_and, ne_eq, Decidable.not_not, Int.not_lt, Int.not_le, Nat.not_lt, Nat.not_le, strB_nil, strB_nil', strB_nnil, strB_nnil'] at h7
          refine run_seq ?_
          refine run_region (q_assign .n (.c rfl) rfl <|
              Lex.nil) ?_
          exact run_ret [] (.cons (.t rfl rfl) .nil) rfl trivial rfl
        · try simp only [Bool.and_eq_true, Bool.or_eq_true, Bool.not_eq_true', Bool.and_eq_false_iff, Bool.or_eq_false_iff, Bool.not_eq_false', decide_eq_true_eq, decide_eq_false_iff_not, beq_iff_eq, bne_iff_ne, beq_eq_false_iff_ne, bne_eq_false_iff_eq, Bool.true_and, ne_eq, Decidable.not_not, Int.not_lt, Int.not_le, Nat.not_lt, Nat.not_le, strB_nil, strB_nil', strB_nnil, strB_nnil'] at h7
          refine run_skip ?_
          refine run_endB ?_
          refine run_region (q_move .n (.t rfl) rfl <|
              q_add .n (.t rfl) (.c rfl) (fun _ => by first | omega | assumption | (simp only [List.length_append, List.length_cons, List.length_nil, List.length_replicate, put_len] at * <;> omega)) rfl <|
              q_assign .n (.t rfl) rfl <|
              Lex.nil) ?_
          exact run_again (x1 + 1) ⟨by first | omega | assumption | (simp only [List.length_append, List.length_cons, List.length_nil, List.length_replicate, put_len] at * <;> omega), by first | omega | assumption | (simp only [List.length_append, List.length_cons, List.length_nil, List.length_replicate, put_len] at * <;> omega)⟩ (by first | omega | assumption | (simp only [List.length_append, List.length_cons, List.length_nil, List.length_replicate, put_len] at * <;> omega)) (sub_of [] ⟨rfl, rfl, rfl, trivial⟩ trivial rfl)
      · try simp only [Bool.and_eq_true, Bool.or_eq_true, Bool.not_eq_true', Bool.and_eq_false_iff, Bool.or_eq_false_iff, Bool.not_eq_false', decide_eq_true_eq, decide_eq_false_iff_not, beq_iff_eq, bne_iff_ne, beq_eq_false_iff_ne, bne_eq_false_iff_eq, Bool.true_and, ne_eq, Decidable.not_not, Int.not_lt, Int.not_le, Nat.not_lt, Nat.not_le, strB_nil, strB_nil', strB_nnil, strB_nnil'] at h6
        refine run_exit rfl ?_
        exact run_cont hk4 x1 ⟨by first | omega | assumption | (simp only [List.length_append, List.length_cons, List.length_nil, List.length_replicate, put_len] at * <;> omega), by first | omega | assumption | (simp only [List.length_append, List.length_cons, List.length_nil, List.length_replicate, put_len] at * <;> omega), by first | omega | assumption | (simp only [List.length_append, List.length_cons, List.length_nil, List.length_replicate, put_len] at * <;> omega)⟩ (sub_of [] trivial trivial rfl)

/-! ### laws_markText -/
theorem c_laws_markText (k_ : Int) (hp1 : k_ ≤ 9223372036854775807) : Con Try.prog 41 [.int .i64 k_] [] (.str (m_laws_markText k_)) ([]) := by
  refine con_intro (out := fun r : (List UInt8) => ((.str r : V), ([] : List (Nat × Option O)))) (r := (m_laws_markText k_)) Try.func41 rfl Try.ntmps41 rfl ?_
  refine run_seq ?_
  refine run_region (q_assign .n (.c rfl) rfl <|
      Lex.nil) ?_
  refine run_seq ?_
  refine run_seq ?_
  refine run_region (q_move .n (.t rfl) rfl <|
      q_int .n (.t rfl) (.c rfl) rfl rfl <|
      Lex.nil) ?_
  refine run_cond (.t rfl) rfl (fun h1 => ?_) (fun h1 => ?_)
  · try simp only [Bool.and_eq_true, Bool.or_eq_true, Bool.not_eq_true', Bool.and_eq_false_iff, Bool.or_eq_false_iff, Bool.not_eq_false', decide_eq_true_eq, decide_eq_false_iff_not, beq_iff_eq, bne_iff_ne, beq_eq_false_iff_ne, bne_eq_false_iff_eq, Bool.true_and, ne_eq, Decidable.not_not, Int.not_lt, Int.not_le, Nat.not_lt, Nat.not_le, strB_nil, strB_nil', strB_nnil, strB_nnil'] at h1
    refine run_seq ?_
    refine run_region (q_assign .n (.c rfl) rfl <|
        Lex.nil) ?_
    exact run_ret [] (.cons (.t rfl rfl) .nil) rfl trivial rfl
  · try simp only [Bool.and_eq_true, Bool.or_eq_true, Bool.not_eq_true', Bool.and_eq_false_iff, Bool.or_eq_false_iff, Bool.not_eq_false', decide_eq_true_eq, decide_eq_false_iff_not, beq_iff_eq, bne_iff_ne, beq_eq_false_iff_ne, bne_eq_false_iff_eq, Bool.true_and, ne_eq, Decidable.not_not, Int.not_lt, Int.not_le, Nat.not_lt, Nat.not_le, strB_nil, strB_nil', strB_nnil, strB_nnil'] at h1
    refine run_skip ?_
    refine run_seq ?_
    refine run_region (q_assign .n (.c rfl) rfl <|
        Lex.nil) ?_
    refine run_seq ?_
    refine run_block ?_
    refine run_LOOP (m_laws_markText_b1 k_) _ _ _ rfl (fun (x1 : Int × (List UInt8)) => (x1.2.length : Int) + x1.1 ≤ k_ ∧ (x1.1 = k_ ∨ (x1.2.length : Int) + x1.1 ≤ 1 + k_ / 10) ∧ 0 ≤ x1.1) (fun x1 => (x1.2.length : Int) + x1.1 ≤ k_ ∧ (x1.1 = k_ ∨ (x1.2.length : Int) + x1.1 ≤ 1 + k_ / 10) ∧ 0 ≤ x1.1) (fun x1 => x1.1.toNat) (fun x1 => ⟨[(0, some (true, .int .i64 x1.1)), (3, some (true, .str x1.2))], []⟩) (fun x1 => ⟨[(3, some (true, .str x1.2))], []⟩) ⟨by first | omega | assumption | (simp only [List.length_append, List.length_cons, List.length_nil, List.length_replicate, put_len] at * <;> omega) | ((rw [tdiv10 (by omega) (by omega)]; simp only [List.length_append, List.length_cons, List.length_nil, List.length_replicate, put_len, chars, List.length_map] at *; omega)) | ((simp only [chars, List.length_map, List.length_cons, List.length_nil, List.length_append] at *; omega)), by first | omega | assumption | (simp only [List.length_append, List.length_cons, List.length_nil, List.length_replicate, put_len] at * <;> omega) | ((rw [tdiv10 (by omega) (by omega)]; simp only [List.length_append, List.length_cons, List.length_nil, List.length_replicate, put_len, chars, List.length_map] at *; omega)) | ((simp only [chars, List.length_map, List.length_cons, List.length_nil, List.length_append] at *; omega)), by first | omega | assumption | (simp only [List.length_append, List.length_cons, List.length_nil, List.length_replicate, put_len] at * <;> omega) | ((rw [tdiv10 (by omega) (by omega)]; simp only [List.length_append, List.length_cons, List.length_nil, List.length_replicate, put_len, chars, List.length_map] at *; omega)) | ((simp only [chars, List.length_map, List.length_cons, List.length_nil, List.length_append] at *; omega))⟩ (by first | omega | assumption | (simp only [List.length_append, List.length_cons, List.length_nil, List.length_replicate, put_len] at * <;> omega) | ((rw [tdiv10 (by omega) (by omega)]; simp only [List.length_append, List.length_cons, List.length_nil, List.length_replicate, put_len, chars, List.length_map] at *; omega)) | ((simp only [chars, List.length_map, List.length_cons, List.length_nil, List.length_append] at *; omega))) (sub_of [] ⟨rfl, rfl, trivial⟩ trivial rfl) ?_ ?_
    · intro x1 i5
      obtain ⟨e6, e7, e8⟩ := i5
      try dsimp only at *
      refine run_seq ?_
      refine run_region (q_move .n (.t rfl) rfl <|
          q_strcat .n (.c rfl) (.t rfl) (fun _ => by first | omega | assumption | (simp only [List.length_append, List.length_cons, List.length_nil, List.length_replicate, put_len] at * <;> omega) | ((rw [tdiv10 (by omega) (by omega)]; simp only [List.length_append, List.length_cons, List.length_nil, List.length_replicate, put_len, chars, List.length_map] at *; omega)) | ((simp only [chars, List.length_map, List.length_cons, List.length_nil, List.length_append] at *; omega))) rfl <|
          q_assign .n (.t rfl) rfl <|
          Lex.nil) ?_
      exact run_ret [] (.cons (.t rfl rfl) .nil) rfl trivial rfl
    · intro rec1 k1 hk2 x1 i3
      obtain ⟨e9, e10, e11⟩ := i3
      try dsimp only at *
      refine run_seq ?_
      refine run_seq ?_
      refine run_region (q_move .n (.t rfl) rfl <|
          q_int .n (.t rfl) (.c rfl) rfl rfl <|
          Lex.nil) ?_
      refine run_cond (.t rfl) rfl (fun h4 => ?_) (fun h4 => ?_)
      · try simp only [Bool.and_eq_true, Bool.or_eq_true, Bool.not_eq_true', Bool.and_eq_false_iff, Bool.or_eq_false_iff, Bool.not_eq_false', decide_eq_true_eq, decide_eq_false_iff_not, beq_iff_eq, bne_iff_ne, beq_eq_false_iff_ne, bne_eq_false_iff_eq, Bool.true_and, ne_eq, Decidable.not_not, Int.not_lt, Int.not_le, Nat.not_lt, Nat.not_le, strB_nil, strB_nil', strB_nnil, strB_nnil'] at h4
        refine run_skip ?_
        refine run_block ?_
        refine run_seq ?_
        refine run_region (q_move .n (.t rfl) rfl <|
            q_rem .n (.t rfl) (.c rfl) (fun _ => by decide) rfl <|
            q_int .n (.c rfl) (.t rfl) rfl rfl <|
            q_conv .n (.t rfl) cv_3_5 rfl <|
            q_bslicem ([IntKind.wrap .u8 (IntKind.wrap .i64 (48 + (Int.tmod x1.1 10)))] : List Int) (f := V.int .u8) (l := 200) .n rfl rfl (.cons (.t rfl) .nil) rfl si_86 zv_5 rfl rfl rfl <|
            q_b2s (xs := ([IntKind.wrap .u8 (IntKind.wrap .i64 (48 + (Int.tmod x1.1 10)))] : List Int)) .n (.ow (.t rfl) rfl (take_all (by simp only [len_map, put_len] <;> rfl)) (by simp only [len_map, put_len] <;> rfl)) bs_86_9 rfl <|
            q_move .n (.t rfl) rfl <|
            q_strcat .n (.t rfl) (.t rfl) (fun _ => by first | omega | assumption | (simp only [List.length_append, List.length_cons, List.length_nil, List.length_replicate, put_len] at * <;> omega) | ((rw [tdiv10 (by omega) (by omega)]; simp only [List.length_append, List.length_cons, List.length_nil, List.length_replicate, put_len, chars, List.length_map] at *; omega)) | ((simp only [chars, List.length_map, List.length_cons, List.length_nil, List.length_append] at *; omega))) rfl <|
            q_assign .n (.t rfl) rfl <|
            Lex.nil) ?_
        refine run_region (q_move .n (.t rfl) rfl <|
            q_quo .n (.t rfl) (.c rfl) (fun _ => by decide) rfl <|
            q_assign .n (.t rfl) rfl <|
            Lex.nil) ?_
        refine run_endB ?_
        exact run_again (IntKind.wrap .i64 (Int.tdiv x1.1 10), (chars ([IntKind.wrap .u8 (IntKind.wrap .i64 (48 + (Int.tmod x1.1 10)))] : List Int)) ++ x1.2) ⟨by first | omega | assumption | (simp only [List.length_append, List.length_cons, List.length_nil, List.length_replicate, put_len] at * <;> omega) | ((rw [tdiv10 (by omega) (by omega)]; simp only [List.length_append, List.length_cons, List.length_nil, List.length_replicate, put_len, chars, List.length_map] at *; omega)) | ((simp only [chars, List.length_map, List.length_cons, List.length_nil, List.length_append] at *; omega)), by first | omega | assumption | (simp only [List.length_append, List.length_cons, List.length_nil, List.length_replicate, put_len] at * <;> omega) | ((rw [tdiv10 (by omega) (by omega)]; simp only [List.length_append, List.length_cons, List.length_nil, List.length_replicate, put_len, chars, List.length_map] at *; omega)) | ((simp only [chars, List.length_map, List.length_cons, List.length_nil, List.length_append] at *; omega)), by first | omega | assumption | (simp only [List.length_append, List.length_cons, List.length_nil, List.length_replicate, put_len] at * <;> omega) | ((rw [tdiv10 (by omega) (by omega)]; simp only [List.length_append, List.length_cons, List.length_nil, List.length_replicate, put_len, chars, List.length_map] at *; omega)) | ((simp only [chars, List.length_map, List.length_cons, List.length_nil, List.length_append] at *; omega))⟩ (by first | omega | assumption | (simp only [List.length_append, List.length_cons, List.length_nil, List.length_replicate, put_len] at * <;> omega) | ((rw [tdiv10 (by omega) (by omega)]; simp only [List.length_append, List.length_cons, List.length_nil, List.length_replicate, put_len, chars, List.length_map] at *; omega)) | ((simp only [chars, List.length_map, List.length_cons, List.length_nil, List.length_append] at *; omega))) (sub_of [] ⟨rfl, rfl, trivial⟩ trivial rfl)
      · try simp only [Bool.and_eq_true, Bool.or_eq_true, Bool.not_eq_true', Bool.and_eq_false_iff, Bool.or_eq_false_iff, Bool.not_eq_false', decide_eq_true_eq, decide_eq_false_iff_not, beq_iff_eq, bne_iff_ne, beq_eq_false_iff_ne, bne_eq_false_iff_eq, Bool.true_and, ne_eq, Decidable.not_not, Int.not_lt, Int.not_le, Nat.not_lt, Nat.not_le, strB_nil, strB_nil', strB_nnil, strB_nnil'] at h4
        refine run_exit rfl ?_
        exact run_cont hk2 (x1.1, x1.2) ⟨by first | omega | assumption | (simp only [List.length_append, List.length_cons, List.length_nil, List.length_replicate, put_len] at * <;> omega) | ((rw [tdiv10 (by omega) (by omega)]; simp only [List.length_append, List.length_cons, List.length_nil, List.length_replicate, put_len, chars, List.length_map] at *; omega)) | ((simp only [chars, List.length_map, List.length_cons, List.length_nil, List.length_append] at *; omega)), by first | omega | assumption | (simp only [List.length_append, List.length_cons, List.length_nil, List.length_replicate, put_len] at * <;> omega) | ((rw [tdiv10 (by omega) (by omega)]; simp only [List.length_append, List.length_cons, List.length_nil, List.length_replicate, put_len, chars, List.length_map] at *; omega)) | ((simp only [chars, List.length_map, List.length_cons, List.length_nil, List.length_append] at *; omega)), by first | omega | assumption | (simp only [List.length_append, List.length_cons, List.length_nil, List.length_replicate, put_len] at * <;> omega) | ((rw [tdiv10 (by omega) (by omega)]; simp only [List.length_append, List.length_cons, List.length_nil, List.length_replicate, put_len, chars, List.length_map] at *; omega)) | ((simp only [chars, List.length_map, List.length_cons, List.length_nil, List.length_append] at *; omega))⟩ (sub_of [] ⟨rfl, trivial⟩ trivial rfl)

/-! ### laws_markSettingS -/
theorem c_laws_markSettingS (a : List gSetting) (k_ : Int) (hp1 : k_ ≤ 9223372036854775807) : Con Try.prog 24 [.os 0 a.length, .int .i64 k_] [(0, some (.row 65 2 (a.map gSetting.v)))] (.int .i64 (m_laws_markSettingS a k_).1) ([(0, some (.row 65 2 ((m_laws_markSettingS a k_).2.map gSetting.v)))]) := by
  refine con_intro (out := fun r : Int × (List gSetting) => ((.int .i64 r.1 : V), ([(0, some (.row 65 2 (r.2.map gSetting.v)))] : List (Nat × Option O)))) (r := (m_laws_markSettingS a k_)) Try.func24 rfl Try.ntmps24 rfl ?_
  refine run_factH (l := 0) rfl fun hl => ?_
  have l1 := hl; clear hl; simp only [List.length_map] at l1
  refine run_seq ?_
  refine run_region (q_assign .n (.c rfl) rfl <|
      Lex.nil) ?_
  refine run_seq ?_
  refine run_seq ?_
  refine run_region (q_assign .n (.c rfl) rfl <|
      Lex.nil) ?_
  refine run_block ?_
  refine run_LOOP (m_laws_markSettingS_b1 a k_) _ _ _ rfl (fun (x1 : (List gSetting) × Int × Int) => 0 ≤ x1.2.2 ∧ x1.1.length = a.length ∧ x1.2.1 ≤ 9223372036854775807) (fun x1 => 0 ≤ x1.2.2 ∧ x1.1.length = a.length ∧ x1.2.1 ≤ 9223372036854775807 ∧ (x1.1.length : Int) ≤ x1.2.2) (fun x1 => ((x1.1.length : Int) - x1.2.2 : Int).toNat) (fun x1 => ⟨[(0, some (true, .os 0 x1.1.length)), (1, some (true, .int .i64 x1.2.1)), (5, some (true, .int .i64 x1.2.2))], [(0, some (.row 65 2 (x1.1.map gSetting.v)))]⟩) (fun x1 => ⟨[(1, some (true, .int .i64 x1.2.1))], [(0, some (.row 65 2 (x1.1.map gSetting.v)))]⟩) ⟨by first | omega | assumption | (simp only [List.length_append, List.length_cons, List.length_nil, List.length_replicate, put_len] at * <;> omega) | (exact wr64_le), by first | omega | assumption | (simp only [List.length_append, List.length_cons, List.length_nil, List.length_replicate, put_len] at * <;> omega) | (exact wr64_le), by first | omega | assumption | (simp only [List.length_append, List.length_cons, List.length_nil, List.length_replicate, put_len] at * <;> omega) | (exact wr64_le)⟩ (by first | omega | assumption | (simp only [List.length_append, List.length_cons, List.length_nil, List.length_replicate, put_len] at * <;> omega) | (exact wr64_le)) (sub_of [] ⟨rfl, rfl, rfl, trivial⟩ ⟨rfl, trivial⟩ rfl) ?_ ?_
  · intro x1 i5
    obtain ⟨e6, e7, e8, e9⟩ := i5
    try dsimp only at *
    refine run_seq ?_
    refine run_region (q_move .n (.t rfl) rfl <|
        q_assign .n (.t rfl) rfl <|
        Lex.nil) ?_
    exact run_ret [] (.cons (.t rfl rfl) .nil) rfl ⟨rfl, trivial⟩ rfl
  · intro rec1 k1 hk2 x1 i3
    obtain ⟨e10, e11, e12⟩ := i3
    try dsimp only at *
    refine run_seq ?_
    refine run_seq ?_
    refine run_region (q_move .n (.t rfl) rfl <|
        q_move .n (.t rfl) rfl <|
        q_len .n (.t rfl) rfl rfl ss_40 rfl <|
        q_int .n (.t rfl) (.t rfl) rfl rfl <|
        Lex.nil) ?_
    refine run_cond (.t rfl) rfl (fun h4 => ?_) (fun h4 => ?_)
    · try simp only [Bool.and_eq_true, Bool.or_eq_true, Bool.not_eq_true', Bool.and_eq_false_iff, Bool.or_eq_false_iff, Bool.not_eq_false', decide_eq_true_eq, decide_eq_false_iff_not, beq_iff_eq, bne_iff_ne, beq_eq_false_iff_ne, bne_eq_false_iff_eq, Bool.true_and, ne_eq, Decidable.not_not, Int.not_lt, Int.not_le, Nat.not_lt, Nat.not_le, strB_nil, strB_nil', strB_nnil, strB_nnil'] at h4
      refine run_skip ?_
      refine run_seq ?_
      refine run_block ?_
      refine run_seq ?_
      refine run_region (q_move .n (.t rfl) rfl <|
          q_move .n (.t rfl) rfl <|
          q_move .n (.t rfl) rfl <|
          q_call0 (full := false) .n .f en_41 (.cons (.t rfl) .nil) (.cons (.b (.a (.same rfl))) .nil) (fun hg => c_laws_markText x1.2.1 (by first | omega | assumption | (simp only [List.length_append, List.length_cons, List.length_nil, List.length_replicate, put_len] at * <;> omega) | (exact wr64_le))) rfl (fun h => Bool.noConfusion h) rfl <|
          q_idx_ow .n (.t rfl) (.t rfl) sl_40 (fun _ => by first | omega | assumption | (simp only [List.length_append, List.length_cons, List.length_nil, List.length_replicate, put_len] at * <;> omega) | (exact wr64_le)) rfl <|
          q_fld_ow .n (.t rfl) fo_65_0 rfl <|
          q_st_rowm (gSetting.mk (m_laws_markText x1.2.1) (at' x1.1 x1.2.2).Value) .n rfl (.t rfl) (.t rfl) rfl ts_9 (by first | omega | assumption | (simp only [List.length_append, List.length_cons, List.length_nil, List.length_replicate, put_len] at * <;> omega) | (exact wr64_le)) rfl rfl <|
          Lex.nil) ?_
      refine run_seq ?_
      refine run_region (q_move .n (.t rfl) rfl <|
          q_int .n (.t rfl) (.c rfl) rfl rfl <|
          q_assign .n (.t rfl) rfl <|
          Lex.nil) ?_
      refine run_seq ?_
      refine run_region (q_move .n (.t rfl) rfl <|
          q_move .n (.t rfl) rfl <|
          q_move .n (.t rfl) rfl <|
          q_idx_ow .n (.t rfl) (.t rfl) sl_40 (fun _ => by first | omega | assumption | (simp only [List.length_append, List.length_cons, List.length_nil, List.length_replicate, put_len] at * <;> omega) | (exact wr64_le)) rfl <|
          q_fld_ow .n (.t rfl) fo_65_1 rfl <|
          q_st_rowp (gSetting.mk (m_laws_markText x1.2.1) (at' x1.1 x1.2.2).Value) (gSetting.mk (m_laws_markText x1.2.1) (IntKind.wrap .i64 (x1.2.1 + 1))) .n rfl (.t rfl) (.t rfl) rfl ts_2 (by first | omega | assumption | (simp only [List.length_append, List.length_cons, List.length_nil, List.length_replicate, put_len] at * <;> omega) | (exact wr64_le)) rfl rfl <|
          Lex.nil) ?_
      refine run_region (q_move .n (.t rfl) rfl <|
          q_int .n (.t rfl) (.c rfl) rfl rfl <|
          q_assign .n (.t rfl) rfl <|
          Lex.nil) ?_
      refine run_endB ?_
      refine run_region (q_move .n (.t rfl) rfl <|
          q_add .n (.t rfl) (.c rfl) (fun _ => by first | omega | assumption | (simp only [List.length_append, List.length_cons, List.length_nil, List.length_replicate, put_len] at * <;> omega) | (exact wr64_le)) rfl <|
          q_assign .n (.t rfl) rfl <|
          Lex.nil) ?_
      exact run_again (put' x1.1 x1.2.2 (gSetting.mk (m_laws_markText x1.2.1) (IntKind.wrap .i64 (x1.2.1 + 1))), IntKind.wrap .i64 ((IntKind.wrap .i64 (x1.2.1 + 1)) + 1), x1.2.2 + 1) ⟨by first | omega | assumption | (simp only [List.length_append, List.length_cons, List.length_nil, List.length_replicate, put_len] at * <;> omega) | (exact wr64_le), by first | omega | assumption | (simp only [List.length_append, List.length_cons, List.length_nil, List.length_replicate, put_len] at * <;> omega) | (exact wr64_le), by first | omega | assumption | (simp only [List.length_append, List.length_cons, List.length_nil, List.length_replicate, put_len] at * <;> omega) | (exact wr64_le)⟩ (by first | omega | assumption | (simp only [List.length_append, List.length_cons, List.length_nil, List.length_replicate, put_len] at * <;> omega) | (exact wr64_le)) (sub_of [] ⟨os_len rfl (by first | (simp only [put_len]; done) | (first | omega | assumption | (simp only [List.length_append, List.length_cons, List.length_nil, List.length_replicate, put_len] at * <;> omega) | (exact wr64_le))), rfl, rfl, trivial⟩ ⟨rfl, trivial⟩ rfl)
    · try simp only [Bool.and_eq_true, Bool.or_eq_true, Bool.not_eq_true', Bool.and_eq_false_iff, Bool.or_eq_false_iff, Bool.not_eq_false', decide_eq_true_eq, decide_eq_false_iff_not, beq_iff_eq, bne_iff_ne, beq_eq_false_iff_ne, bne_eq_false_iff_eq, Bool.true_and, ne_eq, Decidable.not_not, Int.not_lt, Int.not_le, Nat.not_lt, Nat.not_le, strB_nil, strB_nil', strB_nnil, strB_nnil'] at h4
      refine run_exit rfl ?_
      exact run_cont hk2 (x1.1, x1.2.1, x1.2.2) ⟨by first | omega | assumption | (simp only [List.length_append, List.length_cons, List.length_nil, List.length_replicate, put_len] at * <;> omega) | (exact wr64_le), by first | omega | assumption | (simp only [List.length_append, List.length_cons, List.length_nil, List.length_replicate, put_len] at * <;> omega) | (exact wr64_le), by first | omega | assumption | (simp only [List.length_append, List.length_cons, List.length_nil, List.length_replicate, put_len] at * <;> omega) | (exact wr64_le), by first | omega | assumption | (simp only [List.length_append, List.length_cons, List.length_nil, List.length_replicate, put_len] at * <;> omega) | (exact wr64_le)⟩ (sub_of [] ⟨rfl, trivial⟩ ⟨rfl, trivial⟩ rfl)

/-! ### spec_l01Small -/
theorem c_spec_l01Small (c_ : Int) : Con Try.prog 101 [.int .u8 c_] [] (.bool (m_spec_l01Small c_)) ([]) := by
  refine con_intro (out := fun r : Bool => ((.bool r : V), ([] : List (Nat × Option O)))) (r := (m_spec_l01Small c_)) Try.func101 rfl Try.ntmps101 rfl ?_
  refine run_seq ?_
  refine run_region (q_assign .n (.c rfl) rfl <|
      Lex.nil) ?_
  refine run_seq ?_
  refine run_region (q_move .n (.t rfl) rfl <|
      q_int .n (.t rfl) (.c rfl) rfl rfl <|
      q_move .n (.t rfl) rfl <|
      q_move (.t rfl rfl) (.t rfl) rfl <|
      q_int (.t rfl rfl) (.u rfl id) (.c rfl) rfl rfl <|
      q_and .n (.t rfl) (.u rfl id) rfl <|
      q_assign .n (.t rfl) rfl <|
      Lex.nil) ?_
  exact run_ret [] (.cons (.t rfl rfl) .nil) rfl trivial rfl

/-! ### spec_l01Digit -/
theorem c_spec_l01Digit (c_ : Int) : Con Try.prog 102 [.int .u8 c_] [] (.bool (m_spec_l01Digit c_)) ([]) := by
  refine con_intro (out := fun r : Bool => ((.bool r : V), ([] : List (Nat × Option O)))) (r := (m_spec_l01Digit c_)) Try.func102 rfl Try.ntmps102 rfl ?_
  refine run_seq ?_
  refine run_region (q_assign .n (.c rfl) rfl <|
      Lex.nil) ?_
  refine run_seq ?_
  refine run_region (q_move .n (.t rfl) rfl <|
      q_int .n (.t rfl) (.c rfl) rfl rfl <|
      q_move .n (.t rfl) rfl <|
      q_move (.t rfl rfl) (.t rfl) rfl <|
      q_int (.t rfl rfl) (.u rfl id) (.c rfl) rfl rfl <|
      q_and .n (.t rfl) (.u rfl id) rfl <|
      q_assign .n (.t rfl) rfl <|
      Lex.nil) ?_
  exact run_ret [] (.cons (.t rfl rfl) .nil) rfl trivial rfl

/-! ### spec_l01Name -/
theorem c_spec_l01Name (s_ : List UInt8) : Con Try.prog 78 [.str s_] [] (.bool (m_spec_l01Name s_)) ([]) := by
  refine con_intro (out := fun r : Bool => ((.bool r : V), ([] : List (Nat × Option O)))) (r := (m_spec_l01Name s_)) Try.func78 rfl Try.ntmps78 rfl ?_
  refine run_seq ?_
  refine run_region (q_assign .n (.c rfl) rfl <|
      Lex.nil) ?_
  refine run_seq ?_
  refine run_seq ?_
  refine run_region (q_move .n (.t rfl) rfl <|
      q_strcmp .n (.t rfl) (.c rfl) rfl rfl <|
      q_move .n (.t rfl) rfl <|
      q_move (.f rfl rfl) (.t rfl) rfl <|
      q_len (.f rfl rfl) (.u rfl id) rfl rfl st_9 rfl <|
      q_int (.f rfl rfl) (.u rfl id) (.c rfl) rfl rfl <|
      q_or .n (.t rfl) (.u rfl id) rfl <|
      q_move .n (.t rfl) rfl <|
      q_move (.f rfl rfl) (.t rfl) rfl <|
      q_strat (.f rfl rfl) (.u rfl id) (.c rfl) st_9 (fun hg => by simp only [Bool.and_eq_true, Bool.or_eq_true, Bool.not_eq_true', Bool.and_eq_false_iff, Bool.or_eq_false_iff, Bool.not_eq_false', decide_eq_true_eq, decide_eq_false_iff_not, beq_iff_eq, bne_iff_ne, beq_eq_false_iff_ne, bne_eq_false_iff_eq, Bool.true_and, ne_eq, Decidable.not_not, Int.not_lt, Int.not_le, Nat.not_lt, Nat.not_le, strB_nil, strB_nil', strB_nnil, strB_nnil'] at hg; first | omega | assumption | (simp only [List.length_append, List.length_cons, List.length_nil, List.length_replicate, put_len] at * <;> omega)) rfl <|
      q_call0 (full := false) (.f rfl rfl) .f en_101 (.cons (.u rfl id) .nil) (.cons (.b (.a (.same rfl))) .nil) (fun hg => c_spec_l01Small (((s_.getD (0 : Int).toNat 0).toNat : Nat) : Int)) rfl (fun h => Bool.noConfusion h) rfl <|
      q_not (.f rfl rfl) (.u rfl id) rfl <|
      q_or .n (.t rfl) (.u rfl id) rfl <|
      Lex.nil) ?_
  refine run_cond (.t rfl) rfl (fun h1 => ?_) (fun h1 => ?_)
  · try simp only [Bool.and_eq_true, Bool.or_eq_true, Bool.not_eq_true', Bool.and_eq_false_iff, Bool.or_eq_false_iff, Bool.not_eq_false', decide_eq_true_eq, decide_eq_false_iff_not, beq_iff_eq, bne_iff_ne, beq_eq_false_iff_ne, bne_eq_false_iff_eq, Bool.true_and, ne_eq, Decidable.not_not, Int.not_lt, Int.not_le, Nat.not_lt, Nat.not_le, strB_nil, strB_nil', strB_nnil, strB_nnil'] at h1
    refine run_seq ?_
    refine run_region (q_assign .n (.c rfl) rfl <|
        Lex.nil) ?_
    exact run_ret [] (.cons (.t rfl rfl) .nil) rfl trivial rfl
  · try simp only [Bool.and_eq_true, Bool.or_eq_true, Bool.not_eq_true', Bool.and_eq_false_iff, Bool.or_eq_false_iff, Bool.not_eq_false', decide_eq_true_eq, decide_eq_false_iff_not, beq_iff_eq, bne_iff_ne, beq_eq_false_iff_ne, bne_eq_false_iff_eq, Bool.true_and, ne_eq, Decidable.not_not, Int.not_lt, Int.not_le, Nat.not_lt, Nat.not_le, strB_nil, strB_nil', strB_nnil, strB_nnil'] at h1
    refine run_skip ?_
    refine run_seq ?_
    refine run_seq ?_
    refine run_region (q_assign .n (.c rfl) rfl <|
        Lex.nil) ?_
    refine run_block ?_
    refine run_LOOP (m_spec_l01Name_b1 s_) _ _ _ rfl (fun (x1 : Int) => 0 ≤ x1 ∧ x1 ≤ (s_.length : Int)) (fun x1 => 0 ≤ x1 ∧ x1 ≤ (s_.length : Int) ∧ (s_.length : Int) ≤ x1) (fun x1 => ((s_.length : Int) - x1 : Int).toNat) (fun x1 => ⟨[(0, some (true, .str s_)), (3, some (true, .int .i64 x1))], []⟩) (fun x1 => ⟨[], []⟩) ⟨by first | omega | assumption | (simp only [List.length_append, List.length_cons, List.length_nil, List.length_replicate, put_len] at * <;> omega), by first | omega | assumption | (simp only [List.length_append, List.length_cons, List.length_nil, List.length_replicate, put_len] at * <;> omega)⟩ (by first | omega | assumption | (simp only [List.length_append, List.length_cons, List.length_nil, List.length_replicate, put_len] at * <;> omega)) (sub_of [] ⟨rfl, rfl, trivial⟩ trivial rfl) ?_ ?_
    · intro x1 i6
      obtain ⟨e7, e8, e9⟩ := i6
      try dsimp only at *
      refine run_seq ?_
      refine run_region (q_assign .n (.c rfl) rfl <|
          Lex.nil) ?_
      exact run_ret [] (.cons (.t rfl rfl) .nil) rfl trivial rfl
    · intro rec1 k1 hk2 x1 i3
      obtain ⟨e10, e11⟩ := i3
      try dsimp only at *
      refine run_seq ?_
      refine run_seq ?_
      refine run_region (q_move .n (.t rfl) rfl <|
          q_move .n (.t rfl) rfl <|
          q_len .n (.t rfl) rfl rfl st_9 rfl <|
          q_int .n (.t rfl) (.t rfl) rfl rfl <|
          Lex.nil) ?_
      refine run_cond (.t rfl) rfl (fun h4 => ?_) (fun h4 => ?_)
      · try simp only [Bool.and_eq_true, Bool.or_eq_true, Bool.not_eq_true', Bool.and_eq_false_iff, Bool.or_eq_false_iff, Bool.not_eq_false', decide_eq_true_eq, decide_eq_false_iff_not, beq_iff_eq, bne_iff_ne, beq_eq_false_iff_ne, bne_eq_false_iff_eq, Bool.true_and, ne_eq, Decidable.not_not, Int.not_lt, Int.not_le, Nat.not_lt, Nat.not_le, strB_nil, strB_nil', strB_nnil, strB_nnil'] at h4
        refine run_skip ?_
        refine run_seq ?_
        refine run_block ?_
        refine run_seq ?_
        refine run_region (q_move .n (.t rfl) rfl <|
            q_move .n (.t rfl) rfl <|
            q_strat .n (.t rfl) (.t rfl) st_9 (fun _ => by first | omega | assumption | (simp only [List.length_append, List.length_cons, List.length_nil, List.length_replicate, put_len] at * <;> omega)) rfl <|
            q_call0 (full := false) .n .f en_101 (.cons (.t rfl) .nil) (.cons (.b (.a (.same rfl))) .nil) (fun hg => c_spec_l01Small (((s_.getD x1.toNat 0).toNat : Nat) : Int)) rfl (fun h => Bool.noConfusion h) rfl <|
            q_not .n (.t rfl) rfl <|
            q_move .n (.t rfl) rfl <|
            q_move (.t rfl rfl) (.t rfl) rfl <|
            q_move (.t rfl rfl) (.t rfl) rfl <|
            q_strat (.t rfl rfl) (.u rfl id) (.u rfl id) st_9 (fun hg => by simp only [Bool.and_eq_true, Bool.or_eq_true, Bool.not_eq_true', Bool.and_eq_false_iff, Bool.or_eq_false_iff, Bool.not_eq_false', decide_eq_true_eq, decide_eq_false_iff_not, beq_iff_eq, bne_iff_ne, beq_eq_false_iff_ne, bne_eq_false_iff_eq, Bool.true_and, ne_eq, Decidable.not_not, Int.not_lt, Int.not_le, Nat.not_lt, Nat.not_le, strB_nil, strB_nil', strB_nnil, strB_nnil'] at hg; first | omega | assumption | (simp only [List.length_append, List.length_cons, List.length_nil, List.length_replicate, put_len] at * <;> omega)) rfl <|
            q_call0 (full := false) (.t rfl rfl) .f en_102 (.cons (.u rfl id) .nil) (.cons (.b (.a (.same rfl))) .nil) (fun hg => c_spec_l01Digit (((s_.getD x1.toNat 0).toNat : Nat) : Int)) rfl (fun h => Bool.noConfusion h) rfl <|
            q_not (.t rfl rfl) (.u rfl id) rfl <|
            q_and .n (.t rfl) (.u rfl id) rfl <|
            Lex.nil) ?_
        refine run_cond (.t rfl) rfl (fun h5 => ?_) (fun h5 => ?_)
        · try simp only [Bool.and_eq_true, Bool.or_eq_true, Bool.not_eq_true', Bool.and_eq_false_iff, Bool.or_eq_false_iff, Bool.not_eq_false', decide_eq_true_eq, decide_eq_false_iff_not, beq_iff_eq, bne_iff_ne, beq_eq_false_iff_ne, bne_eq_false_iff_eq, Bool.true_and, ne_eq, Decidable.not_not, Int.not_lt, Int.not_le, Nat.not_lt, Nat.not_le, strB_nil, strB_nil', strB_nnil, strB_nnil'] at h5
          refine run_seq ?_
          refine run_region (q_assign .n (.c rfl) rfl <|
              Lex.nil) ?_
          exact run_ret [] (.cons (.t rfl rfl) .nil) rfl trivial rfl
        · try simp only [Bool.and_eq_true, Bool.or_eq_true, Bool.not_eq_true', Bool.and_eq_false_iff, Bool.or_eq_false_iff, Bool.not_eq_false', decide_eq_true_eq, decide_eq_false_iff_not, beq_iff_eq, bne_iff_ne, beq_eq_false_iff_ne, bne_eq_false_iff_eq, Bool.true_and, ne_eq, Decidable.not_not, Int.not_lt, Int.not_le, Nat.not_lt, Nat.not_le, strB_nil, strB_nil', strB_nnil, strB_nnil'] at h5
          refine run_skip ?_
          refine run_endB ?_
          refine run_region (q_move .n (.t rfl) rfl <|
              q_add .n (.t rfl) (.c rfl) (fun _ => by first | omega | assumption | (simp only [List.length_append, List.length_cons, List.length_nil, List.length_replicate, put_len] at * <;> omega)) rfl <|
              q_assign .n (.t rfl) rfl <|
              Lex.nil) ?_
          exact run_again (x1 + 1) ⟨by first | omega | assumption | (simp only [List.length_append, List.length_cons, List.length_nil, List.length_replicate, put_len] at * <;> omega), by first | omega | assumption | (simp only [List.length_append, List.length_cons, List.length_nil, List.length_replicate, put_len] at * <;> omega)⟩ (by first | omega | assumption | (simp only [List.length_append, List.length_cons, List.length_nil, List.length_replicate, put_len] at * <;> omega)) (sub_of [] ⟨rfl, rfl, trivial⟩ trivial rfl)
      · try simp only [Bool.and_eq_true, Bool.or_eq_true, Bool.not_eq_true', Bool.and_eq_false_iff, Bool.or_eq_false_iff, Bool.not_eq_false', decide_eq_true_eq, decide_eq_false_iff_not, beq_iff_eq, bne_iff_ne, beq_eq_false_iff_ne, bne_eq_false_iff_eq, Bool.true_and, ne_eq, Decidable.not_not, Int.not_lt, Int.not_le, Nat.not_lt, Nat.not_le, strB_nil, strB_nil', strB_nnil, strB_nnil'] at h4
        refine run_exit rfl ?_
        exact run_cont hk2 x1 ⟨by first | omega | assumption | (simp only [List.length_append, List.length_cons, List.length_nil, List.length_replicate, put_len] at * <;> omega), by first | omega | assumption | (simp only [List.length_append, List.length_cons, List.length_nil, List.length_replicate, put_len] at * <;> omega), by first | omega | assumption | (simp only [List.length_append, List.length_cons, List.length_nil, List.length_replicate, put_len] at * <;> omega)⟩ (sub_of [] trivial trivial rfl)

/-! ### spec_l00In -/
theorem c_spec_l00In (n_ : Int) (low : Int) (high : Int) : Con Try.prog 79 [.int .i64 n_, .int .i64 low, .int .i64 high] [] (.bool (m_spec_l00In n_ low high)) ([]) := by
  refine con_intro (out := fun r : Bool => ((.bool r : V), ([] : List (Nat × Option O)))) (r := (m_spec_l00In n_ low high)) Try.func79 rfl Try.ntmps79 rfl ?_
  refine run_seq ?_
  refine run_region (q_assign .n (.c rfl) rfl <|
      Lex.nil) ?_
  refine run_seq ?_
  refine run_region (q_move .n (.t rfl) rfl <|
      q_move .n (.t rfl) rfl <|
      q_int .n (.t rfl) (.t rfl) rfl rfl <|
      q_move .n (.t rfl) rfl <|
      q_move (.t rfl rfl) (.t rfl) rfl <|
      q_move (.t rfl rfl) (.t rfl) rfl <|
      q_int (.t rfl rfl) (.u rfl id) (.u rfl id) rfl rfl <|
      q_and .n (.t rfl) (.u rfl id) rfl <|
      q_assign .n (.t rfl) rfl <|
      Lex.nil) ?_
  exact run_ret [] (.cons (.t rfl rfl) .nil) rfl trivial rfl

/-! ### spec_l27Setting -/
theorem c_spec_l27Setting (e : gSetting) : Con Try.prog 65 [.rp [.str e.Name, .int .i64 e.Value]] [] (.bool (m_spec_l27Setting e)) ([]) := by
  refine con_intro (out := fun r : Bool => ((.bool r : V), ([] : List (Nat × Option O)))) (r := (m_spec_l27Setting e)) Try.func65 rfl Try.ntmps65 rfl ?_
  refine run_seq ?_
  refine run_region (q_assign .n (.c rfl) rfl <|
      Lex.nil) ?_
  refine run_seq ?_
  refine run_region (q_move .n (.t rfl) rfl <|
      q_nilc_ro .n (.t rfl) rfl <|
      q_fld_ro .n (.t rfl) fo_65_0 rfl <|
      q_ld1_ro .n (.t rfl) rfl ic_9 rfl <|
      q_call0 (full := false) .n .f en_78 (.cons (.t rfl) .nil) (.cons (.b (.a (.same rfl))) .nil) (fun hg => c_spec_l01Name e.Name) rfl (fun h => Bool.noConfusion h) rfl <|
      q_move .n (.t rfl) rfl <|
      q_move (.t rfl rfl) (.t rfl) rfl <|
      q_nilc_ro (.t rfl rfl) (.u rfl id) rfl <|
      q_fld_ro (.t rfl rfl) (.u rfl id) fo_65_1 rfl <|
      q_ld1_ro (.t rfl rfl) (.u rfl id) rfl ic_2 rfl <|
      q_call0 (full := false) (.t rfl rfl) .f en_79 (.cons (.u rfl id) (.cons (.c rfl) (.cons (.c rfl) .nil))) (.cons (.b (.a (.same rfl))) (.cons (.b (.a (.same rfl))) (.cons (.b (.a (.same rfl))) .nil))) (fun hg => c_spec_l00In e.Value 0 1000) rfl (fun h => Bool.noConfusion h) rfl <|
      q_and .n (.t rfl) (.u rfl id) rfl <|
      q_assign .n (.t rfl) rfl <|
      Lex.nil) ?_
  exact run_ret [] (.cons (.t rfl rfl) .nil) rfl trivial rfl

/-! ### spec_l27State -/
theorem c_spec_l27State (list : List gSetting) : Con Try.prog 43 [.sl 2 (list.map gSetting.v)] [] (.bool (m_spec_l27State list)) ([]) := by
  refine con_intro (out := fun r : Bool => ((.bool r : V), ([] : List (Nat × Option O)))) (r := (m_spec_l27State list)) Try.func43 rfl Try.ntmps43 rfl ?_
  refine run_fact (t := 0) rfl fun hl => ?_
  have l1 := hl; clear hl; simp only [List.length_map] at l1
  refine run_seq ?_
  refine run_region (q_assign .n (.c rfl) rfl <|
      Lex.nil) ?_
  refine run_seq ?_
  refine run_seq ?_
  refine run_region (q_assign .n (.c rfl) rfl <|
      Lex.nil) ?_
  refine run_block ?_
  refine run_LOOP (m_spec_l27State_b1 list) _ _ _ rfl (fun (x1 : Int) => 0 ≤ x1 ∧ x1 ≤ (list.length : Int)) (fun x1 => 0 ≤ x1 ∧ x1 ≤ (list.length : Int) ∧ (list.length : Int) ≤ x1) (fun x1 => ((list.length : Int) - x1 : Int).toNat) (fun x1 => ⟨[(0, some (true, .sl 2 (list.map gSetting.v))), (3, some (true, .int .i64 x1))], []⟩) (fun x1 => ⟨[(0, some (true, .sl 2 (list.map gSetting.v)))], []⟩) ⟨by first | omega | assumption | (simp only [List.length_append, List.length_cons, List.length_nil, List.length_replicate, put_len] at * <;> omega), by first | omega | assumption | (simp only [List.length_append, List.length_cons, List.length_nil, List.length_replicate, put_len] at * <;> omega)⟩ (by first | omega | assumption | (simp only [List.length_append, List.length_cons, List.length_nil, List.length_replicate, put_len] at * <;> omega)) (sub_of [] ⟨rfl, rfl, trivial⟩ trivial rfl) ?_ ?_
  · intro x1 i6
    obtain ⟨e7, e8, e9⟩ := i6
    try dsimp only at *
    refine run_seq ?_
    refine run_region (q_move .n (.t rfl) rfl <|
        q_len .n (.t rfl) rfl len_map ss_40 rfl <|
        q_int .n (.t rfl) (.c rfl) rfl rfl <|
        q_assign .n (.t rfl) rfl <|
        Lex.nil) ?_
    exact run_ret [] (.cons (.t rfl rfl) .nil) rfl trivial rfl
  · intro rec1 k1 hk2 x1 i3
    obtain ⟨e10, e11⟩ := i3
    try dsimp only at *
    refine run_seq ?_
    refine run_seq ?_
    refine run_region (q_move .n (.t rfl) rfl <|
        q_move .n (.t rfl) rfl <|
        q_len .n (.t rfl) rfl len_map ss_40 rfl <|
        q_int .n (.t rfl) (.t rfl) rfl rfl <|
        Lex.nil) ?_
    refine run_cond (.t rfl) rfl (fun h4 => ?_) (fun h4 => ?_)
    · try simp only [Bool.and_eq_true, Bool.or_eq_true, Bool.not_eq_true', Bool.and_eq_false_iff, Bool.or_eq_false_iff, Bool.not_eq_false', decide_eq_true_eq, decide_eq_false_iff_not, beq_iff_eq, bne_iff_ne, beq_eq_false_iff_ne, bne_eq_false_iff_eq, Bool.true_and, ne_eq, Decidable.not_not, Int.not_lt, Int.not_le, Nat.not_lt, Nat.not_le, strB_nil, strB_nil', strB_nnil, strB_nnil'] at h4
      refine run_skip ?_
      refine run_seq ?_
      refine run_block ?_
      refine run_seq ?_
      refine run_draw fmo (q_move .n (.t rfl) rfl <|
          q_move .n (.t rfl) rfl <|
          q_idx_rm .n (.t rfl) (.t rfl) sl_40 (fun _ => by first | omega | assumption | (simp only [List.length_append, List.length_cons, List.length_nil, List.length_replicate, put_len] at * <;> omega)) rfl <|
          q_call0 (full := false) .n .f en_65 (.cons (.t rfl) .nil) (.cons (.b (.a (.same rfl))) .nil) (fun hg => c_spec_l27Setting (at' list x1)) rfl (fun h => Bool.noConfusion h) rfl <|
          q_not .n (.t rfl) rfl <|
          q_move .n (.t rfl) rfl <|
          q_move (.f rfl rfl) (.t rfl) rfl <|
          q_int (.f rfl rfl) (.u rfl id) (.c rfl) rfl rfl <|
          q_move (.f rfl rfl) (.u rfl id) rfl <|
          q_move (.t rfl rfl) (.t rfl) rfl <|
          q_move (.t rfl rfl) (.t rfl) rfl <|
          q_sub (.t rfl rfl) (.u rfl id) (.c rfl) (fun hg => by simp only [Bool.and_eq_true, Bool.or_eq_true, Bool.not_eq_true', Bool.and_eq_false_iff, Bool.or_eq_false_iff, Bool.not_eq_false', decide_eq_true_eq, decide_eq_false_iff_not, beq_iff_eq, bne_iff_ne, beq_eq_false_iff_ne, bne_eq_false_iff_eq, Bool.true_and, ne_eq, Decidable.not_not, Int.not_lt, Int.not_le, Nat.not_lt, Nat.not_le, strB_nil, strB_nil', strB_nnil, strB_nnil'] at hg; first | omega | assumption | (simp only [List.length_append, List.length_cons, List.length_nil, List.length_replicate, put_len] at * <;> omega)) rfl <|
          q_idx_rm (.t rfl rfl) (.u rfl id) (.u rfl id) sl_40 (fun hg => by simp only [Bool.and_eq_true, Bool.or_eq_true, Bool.not_eq_true', Bool.and_eq_false_iff, Bool.or_eq_false_iff, Bool.not_eq_false', decide_eq_true_eq, decide_eq_false_iff_not, beq_iff_eq, bne_iff_ne, beq_eq_false_iff_ne, bne_eq_false_iff_eq, Bool.true_and, ne_eq, Decidable.not_not, Int.not_lt, Int.not_le, Nat.not_lt, Nat.not_le, strB_nil, strB_nil', strB_nnil, strB_nnil'] at hg; first | omega | assumption | (simp only [List.length_append, List.length_cons, List.length_nil, List.length_replicate, put_len] at * <;> omega)) rfl <|
          q_fld_ro (.t rfl rfl) (.u rfl id) fo_65_0 rfl <|
          q_ld1_ro (.t rfl rfl) (.u rfl id) rfl ic_9 rfl <|
          q_move (.t rfl rfl) (.t rfl) rfl <|
          q_move (.t rfl rfl) (.t rfl) rfl <|
          q_idx_rm (.t rfl rfl) (.u rfl id) (.u rfl id) sl_40 (fun hg => by simp only [Bool.and_eq_true, Bool.or_eq_true, Bool.not_eq_true', Bool.and_eq_false_iff, Bool.or_eq_false_iff, Bool.not_eq_false', decide_eq_true_eq, decide_eq_false_iff_not, beq_iff_eq, bne_iff_ne, beq_eq_false_iff_ne, bne_eq_false_iff_eq, Bool.true_and, ne_eq, Decidable.not_not, Int.not_lt, Int.not_le, Nat.not_lt, Nat.not_le, strB_nil, strB_nil', strB_nnil, strB_nnil'] at hg; first | omega | assumption | (simp only [List.length_append, List.length_cons, List.length_nil, List.length_replicate, put_len] at * <;> omega)) rfl <|
          q_fld_ro (.t rfl rfl) (.u rfl id) fo_65_0 rfl <|
          q_ld1_ro (.t rfl rfl) (.u rfl id) rfl ic_9 rfl <|
          q_strcmp (.t rfl rfl) (.u rfl id) (.u rfl id) rfl rfl <|
          q_and (.f rfl rfl) (.u rfl id) (.u rfl id) rfl <|
          q_or .n (.t rfl) (.u rfl id) rfl <|
          Lex.nil) (by kernel_rfl) ?_
      refine run_cond (.t rfl) rfl (fun h5 => ?_) (fun h5 => ?_)
      · try simp only [Bool.and_eq_true, Bool.or_eq_true, Bool.not_eq_true', Bool.and_eq_false_iff, Bool.or_eq_false_iff, Bool.not_eq_false', decide_eq_true_eq, decide_eq_false_iff_not, beq_iff_eq, bne_iff_ne, beq_eq_false_iff_ne, bne_eq_false_iff_eq, Bool.true_and, ne_eq, Decidable.not_not, Int.not_lt, Int.not_le, Nat.not_lt, Nat.not_le, strB_nil, strB_nil', strB_nnil, strB_nnil'] at h5
        refine run_seq ?_
        refine run_region (q_assign .n (.c rfl) rfl <|
            Lex.nil) ?_
        exact run_ret [] (.cons (.t rfl rfl) .nil) rfl trivial rfl
      · try simp only [Bool.and_eq_true, Bool.or_eq_true, Bool.not_eq_true', Bool.and_eq_false_iff, Bool.or_eq_false_iff, Bool.not_eq_false', decide_eq_true_eq, decide_eq_false_iff_not, beq_iff_eq, bne_iff_ne, beq_eq_false_iff_ne, bne_eq_false_iff_eq, Bool.true_and, ne_eq, Decidable.not_not, Int.not_lt, Int.not_le, Nat.not_lt, Nat.not_le, strB_nil, strB_nil', strB_nnil, strB_nnil'] at h5
        refine run_skip ?_
        refine run_endB ?_
        refine run_region (q_move .n (.t rfl) rfl <|
            q_add .n (.t rfl) (.c rfl) (fun _ => by first | omega | assumption | (simp only [List.length_append, List.length_cons, List.length_nil, List.length_replicate, put_len] at * <;> omega)) rfl <|
            q_assign .n (.t rfl) rfl <|
            Lex.nil) ?_
        exact run_again (x1 + 1) ⟨by first | omega | assumption | (simp only [List.length_append, List.length_cons, List.length_nil, List.length_replicate, put_len] at * <;> omega), by first | omega | assumption | (simp only [List.length_append, List.length_cons, List.length_nil, List.length_replicate, put_len] at * <;> omega)⟩ (by first | omega | assumption | (simp only [List.length_append, List.length_cons, List.length_nil, List.length_replicate, put_len] at * <;> omega)) (sub_of [] ⟨rfl, rfl, trivial⟩ trivial rfl)
    · try simp only [Bool.and_eq_true, Bool.or_eq_true, Bool.not_eq_true', Bool.and_eq_false_iff, Bool.or_eq_false_iff, Bool.not_eq_false', decide_eq_true_eq, decide_eq_false_iff_not, beq_iff_eq, bne_iff_ne, beq_eq_false_iff_ne, bne_eq_false_iff_eq, Bool.true_and, ne_eq, Decidable.not_not, Int.not_lt, Int.not_le, Nat.not_lt, Nat.not_le, strB_nil, strB_nil', strB_nnil, strB_nnil'] at h4
      refine run_exit rfl ?_
      exact run_cont hk2 x1 ⟨by first | omega | assumption | (simp only [List.length_append, List.length_cons, List.length_nil, List.length_replicate, put_len] at * <;> omega), by first | omega | assumption | (simp only [List.length_append, List.length_cons, List.length_nil, List.length_replicate, put_len] at * <;> omega), by first | omega | assumption | (simp only [List.length_append, List.length_cons, List.length_nil, List.length_replicate, put_len] at * <;> omega)⟩ (sub_of [] ⟨rfl, trivial⟩ trivial rfl)

/-! ### spec_l27Set -/
theorem c_spec_l27Set (list : List gSetting) (e : gSetting) (hp1 : list.length ≤ 1000) : Con Try.prog 85 [.sl 2 (list.map gSetting.v), .st [.str e.Name, .int .i64 e.Value]] [] (.os 100 (m_spec_l27Set list e).length) ([(100, some (.row 65 2 ((m_spec_l27Set list e).map gSetting.v)))]) := by
  refine con_intro (out := fun r : (List gSetting) => ((.os 100 r.length : V), ([(100, some (.row 65 2 (r.map gSetting.v)))] : List (Nat × Option O)))) (r := (m_spec_l27Set list e)) Try.func85 rfl Try.ntmps85 rfl ?_
  refine run_fact (t := 0) rfl fun hl => ?_
  have l1 := hl; clear hl; simp only [List.length_map] at l1
  refine run_seq ?_
  refine run_region (q_box (l := 200) .n rfl (.t rfl) rfl rfl rfl rfl <|
      q_assign .n (.c rfl) rfl <|
      Lex.nil) ?_
  refine run_seq ?_
  refine run_region (q_bslicem ([] : List gSetting) (f := gSetting.v) (l := 201) .n rfl rfl .nil rfl si_40 zv_65 rfl rfl rfl <|
      q_assign .n (.t rfl) rfl <|
      Lex.nil) ?_
  refine run_seq ?_
  refine run_region (q_assign .n (.c rfl) rfl <|
      Lex.nil) ?_
  refine run_seq ?_
  refine run_seq ?_
  refine run_region (q_assign .n (.c rfl) rfl <|
      Lex.nil) ?_
  refine run_block ?_
  refine run_LOOP (m_spec_l27Set_b1 list e) _ _ _ rfl (fun (x1 : (List gSetting) × Bool × Int) => 0 ≤ x1.2.2 ∧ x1.2.2 ≤ (list.length : Int) ∧ (x1.1.length : Int) ≤ 2 * x1.2.2) (fun x1 => 0 ≤ x1.2.2 ∧ x1.2.2 ≤ (list.length : Int) ∧ (x1.1.length : Int) ≤ 2 * x1.2.2 ∧ (list.length : Int) ≤ x1.2.2) (fun x1 => ((list.length : Int) - x1.2.2 : Int).toNat) (fun x1 => ⟨[(0, some (true, .sl 2 (list.map gSetting.v))), (3, some (true, .op 200 0 0 0)), (5, some (true, .os 201 x1.1.length)), (6, some (true, .bool x1.2.1)), (7, some (true, .int .i64 x1.2.2))], [(200, some (.box 65 [.str e.Name, .int .i64 e.Value])), (201, some (.row 65 2 (x1.1.map gSetting.v)))]⟩) (fun x1 => ⟨[(3, some (true, .op 200 0 0 0)), (5, some (true, .os 201 x1.1.length)), (6, some (true, .bool x1.2.1))], [(200, some (.box 65 [.str e.Name, .int .i64 e.Value])), (201, some (.row 65 2 (x1.1.map gSetting.v)))]⟩) ⟨by first | omega | assumption | (simp only [List.length_append, List.length_cons, List.length_nil, List.length_replicate, put_len] at * <;> omega), by first | omega | assumption | (simp only [List.length_append, List.length_cons, List.length_nil, List.length_replicate, put_len] at * <;> omega), by first | omega | assumption | (simp only [List.length_append, List.length_cons, List.length_nil, List.length_replicate, put_len] at * <;> omega)⟩ (by first | omega | assumption | (simp only [List.length_append, List.length_cons, List.length_nil, List.length_replicate, put_len] at * <;> omega)) (sub_of [] ⟨rfl, rfl, rfl, rfl, rfl, trivial⟩ ⟨rfl, rfl, trivial⟩ rfl) ?_ ?_
  · intro x1 i12
    obtain ⟨e14, e15, e16, e17⟩ := i12
    try dsimp only at *
    refine run_seq ?_
    refine run_seq ?_
    refine run_region (q_move .n (.t rfl) rfl <|
        q_not .n (.t rfl) rfl <|
        Lex.nil) ?_
    refine run_cond (.t rfl) rfl (fun h13 => ?_) (fun h13 => ?_)
    · try simp only [Bool.and_eq_true, Bool.or_eq_true, Bool.not_eq_true', Bool.and_eq_false_iff, Bool.or_eq_false_iff, Bool.not_eq_false', decide_eq_true_eq, decide_eq_false_iff_not, beq_iff_eq, bne_iff_ne, beq_eq_false_iff_ne, bne_eq_false_iff_eq, Bool.true_and, ne_eq, Decidable.not_not, Int.not_lt, Int.not_le, Nat.not_lt, Nat.not_le, strB_nil, strB_nil', strB_nnil, strB_nnil'] at h13
      refine run_region (q_move .n (.t rfl) rfl <|
          q_ldN_ow .n (.t rfl) rfl (.inr rfl) ag_65 (fun _ => rfl) rfl rfl <|
          q_bslicem ([e] : List gSetting) (f := gSetting.v) (l := 206) .n rfl rfl (.cons (.t rfl) .nil) rfl si_40 zv_65 rfl rfl rfl <|
          q_appm (xs := x1.1) (ys := ([e] : List gSetting)) (f := gSetting.v) (l := 207) .n rfl (.ow (.t rfl) rfl (take_all (by simp only [len_map, put_len] <;> rfl)) (by simp only [len_map, put_len] <;> rfl)) (.ow (.t rfl) rfl (take_all (by simp only [len_map, put_len] <;> rfl)) (by simp only [len_map, put_len] <;> rfl)) si_40 zv_65 rfl (by first | omega | assumption | (simp only [List.length_append, List.length_cons, List.length_nil, List.length_replicate, put_len] at * <;> omega)) rfl rfl <|
          q_assign .n (.t rfl) rfl <|
          Lex.nil) ?_
      refine run_seq ?_
      refine run_region (q_move .n (.t rfl) rfl <|
          q_assign .n (.t rfl) rfl <|
          Lex.nil) ?_
      exact run_ret [(100, 207)] (.cons (.t rfl rfl) .nil) (by first | rfl | (simp only [put_len]; rfl)) ⟨rfl, trivial⟩ rfl
    · try simp only [Bool.and_eq_true, Bool.or_eq_true, Bool.not_eq_true', Bool.and_eq_false_iff, Bool.or_eq_false_iff, Bool.not_eq_false', decide_eq_true_eq, decide_eq_false_iff_not, beq_iff_eq, bne_iff_ne, beq_eq_false_iff_ne, bne_eq_false_iff_eq, Bool.true_and, ne_eq, Decidable.not_not, Int.not_lt, Int.not_le, Nat.not_lt, Nat.not_le, strB_nil, strB_nil', strB_nnil, strB_nnil'] at h13
      refine run_skip ?_
      refine run_seq ?_
      refine run_region (q_move .n (.t rfl) rfl <|
          q_assign .n (.t rfl) rfl <|
          Lex.nil) ?_
      exact run_ret [(100, 201)] (.cons (.t rfl rfl) .nil) (by first | rfl | (simp only [put_len]; rfl)) ⟨rfl, trivial⟩ rfl
  · intro rec1 k1 hk2 x1 i3
    obtain ⟨e18, e19, e20⟩ := i3
    try dsimp only at *
    refine run_seq ?_
    refine run_seq ?_
    refine run_region (q_move .n (.t rfl) rfl <|
        q_move .n (.t rfl) rfl <|
        q_len .n (.t rfl) rfl len_map ss_40 rfl <|
        q_int .n (.t rfl) (.t rfl) rfl rfl <|
        Lex.nil) ?_
    refine run_cond (.t rfl) rfl (fun h4 => ?_) (fun h4 => ?_)
    · try simp only [Bool.and_eq_true, Bool.or_eq_true, Bool.not_eq_true', Bool.and_eq_false_iff, Bool.or_eq_false_iff, Bool.not_eq_false', decide_eq_true_eq, decide_eq_false_iff_not, beq_iff_eq, bne_iff_ne, beq_eq_false_iff_ne, bne_eq_false_iff_eq, Bool.true_and, ne_eq, Decidable.not_not, Int.not_lt, Int.not_le, Nat.not_lt, Nat.not_le, strB_nil, strB_nil', strB_nnil, strB_nnil'] at h4
      refine run_skip ?_
      refine run_seq ?_
      refine run_block ?_
      refine run_seq ?_
      refine run_seq ?_
      refine run_draw fmo (q_move .n (.t rfl) rfl <|
          q_not .n (.t rfl) rfl <|
          q_move .n (.t rfl) rfl <|
          q_move (.t rfl rfl) (.t rfl) rfl <|
          q_move (.t rfl rfl) (.t rfl) rfl <|
          q_idx_rm (.t rfl rfl) (.u rfl id) (.u rfl id) sl_40 (fun hg => by simp only [Bool.and_eq_true, Bool.or_eq_true, Bool.not_eq_true', Bool.and_eq_false_iff, Bool.or_eq_false_iff, Bool.not_eq_false', decide_eq_true_eq, decide_eq_false_iff_not, beq_iff_eq, bne_iff_ne, beq_eq_false_iff_ne, bne_eq_false_iff_eq, Bool.true_and, ne_eq, Decidable.not_not, Int.not_lt, Int.not_le, Nat.not_lt, Nat.not_le, strB_nil, strB_nil', strB_nnil, strB_nnil'] at hg; first | omega | assumption | (simp only [List.length_append, List.length_cons, List.length_nil, List.length_replicate, put_len] at * <;> omega)) rfl <|
          q_fld_ro (.t rfl rfl) (.u rfl id) fo_65_0 rfl <|
          q_ld1_ro (.t rfl rfl) (.u rfl id) rfl ic_9 rfl <|
          q_fld_ow (.t rfl rfl) (.t rfl) fo_65_0 rfl <|
          q_ld1_ow (.t rfl rfl) (.u rfl id) rfl (.inr rfl) (fun _ => rfl) rfl ic_9 rfl <|
          q_strcmp (.t rfl rfl) (.u rfl id) (.u rfl id) rfl rfl <|
          q_and .n (.t rfl) (.u rfl id) rfl <|
          Lex.nil) (by kernel_rfl) ?_
      refine run_join _ _ rfl (fun v5 : (List gSetting) × Bool => (v5.1.length : Int) ≤ (x1.1.length : Int) + 1) (fun v5 => ⟨[(0, some (true, .sl 2 (list.map gSetting.v))), (3, some (true, .op 200 0 0 0)), (5, some (true, .os 203 v5.1.length)), (6, some (true, .bool v5.2)), (7, some (true, .int .i64 x1.2.2))], [(200, some (.box 65 [.str e.Name, .int .i64 e.Value])), (203, some (.row 65 2 (v5.1.map gSetting.v)))]⟩) (fun v5 hv10 => ?_) (fun j6 hj7 => ?_)
      · have e11 := hv10
        refine run_seq ?_
        refine run_draw fmo (q_move .n (.t rfl) rfl <|
            q_move .n (.t rfl) rfl <|
            q_idx_rm .n (.t rfl) (.t rfl) sl_40 (fun _ => by first | omega | assumption | (simp only [List.length_append, List.length_cons, List.length_nil, List.length_replicate, put_len] at * <;> omega)) rfl <|
            q_fld_ro .n (.t rfl) fo_65_0 rfl <|
            q_ld1_ro .n (.t rfl) rfl ic_9 rfl <|
            q_fld_ow .n (.t rfl) fo_65_0 rfl <|
            q_ld1_ow .n (.t rfl) rfl (.inr rfl) (fun _ => rfl) rfl ic_9 rfl <|
            q_strcmp .n (.t rfl) (.t rfl) rfl rfl <|
            Lex.nil) (by kernel_rfl) ?_
        refine run_cond (.t rfl) rfl (fun h9 => ?_) (fun h9 => ?_)
        · try simp only [Bool.and_eq_true, Bool.or_eq_true, Bool.not_eq_true', Bool.and_eq_false_iff, Bool.or_eq_false_iff, Bool.not_eq_false', decide_eq_true_eq, decide_eq_false_iff_not, beq_iff_eq, bne_iff_ne, beq_eq_false_iff_ne, bne_eq_false_iff_eq, Bool.true_and, ne_eq, Decidable.not_not, Int.not_lt, Int.not_le, Nat.not_lt, Nat.not_le, strB_nil, strB_nil', strB_nnil, strB_nnil'] at h9
          refine run_region (q_move .n (.t rfl) rfl <|
              q_move .n (.t rfl) rfl <|
              q_move .n (.t rfl) rfl <|
              q_idx_rm .n (.t rfl) (.t rfl) sl_40 (fun _ => by first | omega | assumption | (simp only [List.length_append, List.length_cons, List.length_nil, List.length_replicate, put_len] at * <;> omega)) rfl <|
              q_ldN_ro .n (.t rfl) ag_65 rfl rfl rfl <|
              q_bslicem ([at' list x1.2.2] : List gSetting) (f := gSetting.v) (l := 204) .n rfl rfl (.cons (.t rfl) .nil) rfl si_40 zv_65 rfl rfl rfl <|
              q_appm (xs := v5.1) (ys := ([at' list x1.2.2] : List gSetting)) (f := gSetting.v) (l := 205) .n rfl (.ow (.t rfl) rfl (take_all (by simp only [len_map, put_len] <;> rfl)) (by simp only [len_map, put_len] <;> rfl)) (.ow (.t rfl) rfl (take_all (by simp only [len_map, put_len] <;> rfl)) (by simp only [len_map, put_len] <;> rfl)) si_40 zv_65 rfl (by first | omega | assumption | (simp only [List.length_append, List.length_cons, List.length_nil, List.length_replicate, put_len] at * <;> omega)) rfl rfl <|
              q_assign .n (.t rfl) rfl <|
              Lex.nil) ?_
          refine run_endB ?_
          refine run_region (q_move .n (.t rfl) rfl <|
              q_add .n (.t rfl) (.c rfl) (fun _ => by first | omega | assumption | (simp only [List.length_append, List.length_cons, List.length_nil, List.length_replicate, put_len] at * <;> omega)) rfl <|
              q_assign .n (.t rfl) rfl <|
              Lex.nil) ?_
          exact run_again (v5.1 ++ ([at' list x1.2.2] : List gSetting), v5.2, x1.2.2 + 1) ⟨by first | omega | assumption | (simp only [List.length_append, List.length_cons, List.length_nil, List.length_replicate, put_len] at * <;> omega), by first | omega | assumption | (simp only [List.length_append, List.length_cons, List.length_nil, List.length_replicate, put_len] at * <;> omega), by first | omega | assumption | (simp only [List.length_append, List.length_cons, List.length_nil, List.length_replicate, put_len] at * <;> omega)⟩ (by first | omega | assumption | (simp only [List.length_append, List.length_cons, List.length_nil, List.length_replicate, put_len] at * <;> omega)) (sub_of [(201, 205)] ⟨rfl, rfl, rfl, rfl, rfl, trivial⟩ ⟨rfl, rfl, trivial⟩ rfl)
        · try simp only [Bool.and_eq_true, Bool.or_eq_true, Bool.not_eq_true', Bool.and_eq_false_iff, Bool.or_eq_false_iff, Bool.not_eq_false', decide_eq_true_eq, decide_eq_false_iff_not, beq_iff_eq, bne_iff_ne, beq_eq_false_iff_ne, bne_eq_false_iff_eq, Bool.true_and, ne_eq, Decidable.not_not, Int.not_lt, Int.not_le, Nat.not_lt, Nat.not_le, strB_nil, strB_nil', strB_nnil, strB_nnil'] at h9
          refine run_skip ?_
          refine run_endB ?_
          refine run_region (q_move .n (.t rfl) rfl <|
              q_add .n (.t rfl) (.c rfl) (fun _ => by first | omega | assumption | (simp only [List.length_append, List.length_cons, List.length_nil, List.length_replicate, put_len] at * <;> omega)) rfl <|
              q_assign .n (.t rfl) rfl <|
              Lex.nil) ?_
          exact run_again (v5.1, v5.2, x1.2.2 + 1) ⟨by first | omega | assumption | (simp only [List.length_append, List.length_cons, List.length_nil, List.length_replicate, put_len] at * <;> omega), by first | omega | assumption | (simp only [List.length_append, List.length_cons, List.length_nil, List.length_replicate, put_len] at * <;> omega), by first | omega | assumption | (simp only [List.length_append, List.length_cons, List.length_nil, List.length_replicate, put_len] at * <;> omega)⟩ (by first | omega | assumption | (simp only [List.length_append, List.length_cons, List.length_nil, List.length_replicate, put_len] at * <;> omega)) (sub_of [(201, 203)] ⟨rfl, rfl, rfl, rfl, rfl, trivial⟩ ⟨rfl, rfl, trivial⟩ rfl)
      · refine run_cond (.t rfl) rfl (fun h8 => ?_) (fun h8 => ?_)
        · try simp only [Bool.and_eq_true, Bool.or_eq_true, Bool.not_eq_true', Bool.and_eq_false_iff, Bool.or_eq_false_iff, Bool.not_eq_false', decide_eq_true_eq, decide_eq_false_iff_not, beq_iff_eq, bne_iff_ne, beq_eq_false_iff_ne, bne_eq_false_iff_eq, Bool.true_and, ne_eq, Decidable.not_not, Int.not_lt, Int.not_le, Nat.not_lt, Nat.not_le, strB_nil, strB_nil', strB_nnil, strB_nnil'] at h8
          refine run_seq ?_
          refine run_region (q_move .n (.t rfl) rfl <|
              q_ldN_ow .n (.t rfl) rfl (.inr rfl) ag_65 (fun _ => rfl) rfl rfl <|
              q_bslicem ([e] : List gSetting) (f := gSetting.v) (l := 202) .n rfl rfl (.cons (.t rfl) .nil) rfl si_40 zv_65 rfl rfl rfl <|
              q_appm (xs := x1.1) (ys := ([e] : List gSetting)) (f := gSetting.v) (l := 203) .n rfl (.ow (.t rfl) rfl (take_all (by simp only [len_map, put_len] <;> rfl)) (by simp only [len_map, put_len] <;> rfl)) (.ow (.t rfl) rfl (take_all (by simp only [len_map, put_len] <;> rfl)) (by simp only [len_map, put_len] <;> rfl)) si_40 zv_65 rfl (by first | omega | assumption | (simp only [List.length_append, List.length_cons, List.length_nil, List.length_replicate, put_len] at * <;> omega)) rfl rfl <|
              q_assign .n (.t rfl) rfl <|
              Lex.nil) ?_
          refine run_region (q_assign .n (.c rfl) rfl <|
              Lex.nil) ?_
          exact run_cont hj7 (x1.1 ++ ([e] : List gSetting), true) (by first | omega | assumption | (simp only [List.length_append, List.length_cons, List.length_nil, List.length_replicate, put_len] at * <;> omega)) (sub_of [] ⟨rfl, rfl, rfl, rfl, rfl, trivial⟩ ⟨rfl, rfl, trivial⟩ rfl)
        · try simp only [Bool.and_eq_true, Bool.or_eq_true, Bool.not_eq_true', Bool.and_eq_false_iff, Bool.or_eq_false_iff, Bool.not_eq_false', decide_eq_true_eq, decide_eq_false_iff_not, beq_iff_eq, bne_iff_ne, beq_eq_false_iff_ne, bne_eq_false_iff_eq, Bool.true_and, ne_eq, Decidable.not_not, Int.not_lt, Int.not_le, Nat.not_lt, Nat.not_le, strB_nil, strB_nil', strB_nnil, strB_nnil'] at h8
          refine run_skip ?_
          exact run_cont hj7 (x1.1, x1.2.1) (by first | omega | assumption | (simp only [List.length_append, List.length_cons, List.length_nil, List.length_replicate, put_len] at * <;> omega)) (sub_of [(203, 201)] ⟨rfl, rfl, rfl, rfl, rfl, trivial⟩ ⟨rfl, rfl, trivial⟩ rfl)
    · try simp only [Bool.and_eq_true, Bool.or_eq_true, Bool.not_eq_true', Bool.and_eq_false_iff, Bool.or_eq_false_iff, Bool.not_eq_false', decide_eq_true_eq, decide_eq_false_iff_not, beq_iff_eq, bne_iff_ne, beq_eq_false_iff_ne, bne_eq_false_iff_eq, Bool.true_and, ne_eq, Decidable.not_not, Int.not_lt, Int.not_le, Nat.not_lt, Nat.not_le, strB_nil, strB_nil', strB_nnil, strB_nnil'] at h4
      refine run_exit rfl ?_
      exact run_cont hk2 (x1.1, x1.2.1, x1.2.2) ⟨by first | omega | assumption | (simp only [List.length_append, List.length_cons, List.length_nil, List.length_replicate, put_len] at * <;> omega), by first | omega | assumption | (simp only [List.length_append, List.length_cons, List.length_nil, List.length_replicate, put_len] at * <;> omega), by first | omega | assumption | (simp only [List.length_append, List.length_cons, List.length_nil, List.length_replicate, put_len] at * <;> omega), by first | omega | assumption | (simp only [List.length_append, List.length_cons, List.length_nil, List.length_replicate, put_len] at * <;> omega)⟩ (sub_of [] ⟨rfl, rfl, rfl, trivial⟩ ⟨rfl, rfl, trivial⟩ rfl)

/-! ### spec_l27Names -/
set_option maxRecDepth 100000 in
set_option maxHeartbeats 4000000 in
theorem c_spec_l27Names (base : List gSetting) (a : List gSetting) (b : List gSetting) (hp1 : base.length ≤ 24) (hp2 : a.length ≤ 24) (hp3 : b.length ≤ 24) : Con Try.prog 66 [.sl 2 (base.map gSetting.v), .sl 2 (a.map gSetting.v), .sl 2 (b.map gSetting.v)] [] (.os 100 (m_spec_l27Names base a b).length) ([(100, some (.row 9 1 ((m_spec_l27Names base a b).map V.str)))]) := by
  refine con_intro (out := fun r : (List (List UInt8)) => ((.os 100 r.length : V), ([(100, some (.row 9 1 (r.map V.str)))] : List (Nat × Option O)))) (r := (m_spec_l27Names base a b)) Try.func66 rfl Try.ntmps66 rfl ?_
  refine run_fact (t := 0) rfl fun hl => ?_
  have l1 := hl; clear hl; simp only [List.length_map] at l1
  refine run_fact (t := 1) rfl fun hl => ?_
  have l2 := hl; clear hl; simp only [List.length_map] at l2
  refine run_fact (t := 2) rfl fun hl => ?_
  have l3 := hl; clear hl; simp only [List.length_map] at l3
  refine run_seq ?_
  refine run_region (q_assign .n (.c rfl) rfl <|
      Lex.nil) ?_
  refine run_seq ?_
  refine run_region (q_bslicem ([] : List gSetting) (f := gSetting.v) (l := 200) .n rfl rfl .nil rfl si_40 zv_65 rfl rfl rfl <|
      q_assign .n (.t rfl) rfl <|
      Lex.nil) ?_
  refine run_seq ?_
  refine run_seq ?_
  refine run_region (q_assign .n (.c rfl) rfl <|
      Lex.nil) ?_
  refine run_block ?_
  refine run_LOOP (m_spec_l27Names_b1 base a b) _ _ _ rfl (fun (x1 : (List gSetting) × Int) => 0 ≤ x1.2 ∧ x1.2 ≤ (base.length : Int) ∧ (x1.1.length : Int) ≤ x1.2) (fun x1 => 0 ≤ x1.2 ∧ x1.2 ≤ (base.length : Int) ∧ (x1.1.length : Int) ≤ x1.2 ∧ (base.length : Int) ≤ x1.2) (fun x1 => ((base.length : Int) - x1.2 : Int).toNat) (fun x1 => ⟨[(0, some (true, .sl 2 (base.map gSetting.v))), (1, some (true, .sl 2 (a.map gSetting.v))), (2, some (true, .sl 2 (b.map gSetting.v))), (7, some (true, .os 200 x1.1.length)), (8, some (true, .int .i64 x1.2))], [(200, some (.row 65 2 (x1.1.map gSetting.v)))]⟩) (fun x1 => ⟨[(1, some (true, .sl 2 (a.map gSetting.v))), (2, some (true, .sl 2 (b.map gSetting.v))), (7, some (true, .os 200 x1.1.length))], [(200, some (.row 65 2 (x1.1.map gSetting.v)))]⟩) ⟨by first | omega | assumption | (simp only [List.length_append, List.length_cons, List.length_nil, List.length_replicate, put_len] at * <;> omega) | ((have hq := set_le x1.1 (at' base x1.2); first | omega | (dsimp only; omega))) | ((have hq := set_le x2.1 (at' a x2.2); first | omega | (dsimp only; omega))) | ((have hq := set_le x3.1 (at' b x3.2); first | omega | (dsimp only; omega))), by first | omega | assumption | (simp only [List.length_append, List.length_cons, List.length_nil, List.length_replicate, put_len] at * <;> omega) | ((have hq := set_le x1.1 (at' base x1.2); first | omega | (dsimp only; omega))) | ((have hq := set_le x2.1 (at' a x2.2); first | omega | (dsimp only; omega))) | ((have hq := set_le x3.1 (at' b x3.2); first | omega | (dsimp only; omega))), by first | omega | assumption | (simp only [List.length_append, List.length_cons, List.length_nil, List.length_replicate, put_len] at * <;> omega) | ((have hq := set_le x1.1 (at' base x1.2); first | omega | (dsimp only; omega))) | ((have hq := set_le x2.1 (at' a x2.2); first | omega | (dsimp only; omega))) | ((have hq := set_le x3.1 (at' b x3.2); first | omega | (dsimp only; omega)))⟩ (by first | omega | assumption | (simp only [List.length_append, List.length_cons, List.length_nil, List.length_replicate, put_len] at * <;> omega) | ((have hq := set_le x1.1 (at' base x1.2); first | omega | (dsimp only; omega))) | ((have hq := set_le x2.1 (at' a x2.2); first | omega | (dsimp only; omega))) | ((have hq := set_le x3.1 (at' b x3.2); first | omega | (dsimp only; omega)))) (sub_of [] ⟨rfl, rfl, rfl, rfl, rfl, trivial⟩ ⟨rfl, trivial⟩ rfl) ?_ ?_
  · intro x1 i7
    obtain ⟨e43, e44, e45, e46⟩ := i7
    try dsimp only at *
    refine run_seq ?_
    refine run_seq ?_
    refine run_region (q_assign .n (.c rfl) rfl <|
        Lex.nil) ?_
    refine run_block ?_
    refine run_LOOP (m_spec_l27Names_b2 base a b x1) _ _ _ rfl (fun (x2 : (List gSetting) × Int) => 0 ≤ x2.2 ∧ x2.2 ≤ (a.length : Int) ∧ (x2.1.length : Int) ≤ 24 + x2.2) (fun x2 => 0 ≤ x2.2 ∧ x2.2 ≤ (a.length : Int) ∧ (x2.1.length : Int) ≤ 24 + x2.2 ∧ (a.length : Int) ≤ x2.2) (fun x2 => ((a.length : Int) - x2.2 : Int).toNat) (fun x2 => ⟨[(1, some (true, .sl 2 (a.map gSetting.v))), (2, some (true, .sl 2 (b.map gSetting.v))), (7, some (true, .os 200 x2.1.length)), (9, some (true, .int .i64 x2.2))], [(200, some (.row 65 2 (x2.1.map gSetting.v)))]⟩) (fun x2 => ⟨[(2, some (true, .sl 2 (b.map gSetting.v))), (7, some (true, .os 200 x2.1.length))], [(200, some (.row 65 2 (x2.1.map gSetting.v)))]⟩) ⟨by first | omega | assumption | (simp only [List.length_append, List.length_cons, List.length_nil, List.length_replicate, put_len] at * <;> omega) | ((have hq := set_le x1.1 (at' base x1.2); first | omega | (dsimp only; omega))) | ((have hq := set_le x2.1 (at' a x2.2); first | omega | (dsimp only; omega))) | ((have hq := set_le x3.1 (at' b x3.2); first | omega | (dsimp only; omega))), by first | omega | assumption | (simp only [List.length_append, List.length_cons, List.length_nil, List.length_replicate, put_len] at * <;> omega) | ((have hq := set_le x1.1 (at' base x1.2); first | omega | (dsimp only; omega))) | ((have hq := set_le x2.1 (at' a x2.2); first | omega | (dsimp only; omega))) | ((have hq := set_le x3.1 (at' b x3.2); first | omega | (dsimp only; omega))), by first | omega | assumption | (simp only [List.length_append, List.length_cons, List.length_nil, List.length_replicate, put_len] at * <;> omega) | ((have hq := set_le x1.1 (at' base x1.2); first | omega | (dsimp only; omega))) | ((have hq := set_le x2.1 (at' a x2.2); first | omega | (dsimp only; omega))) | ((have hq := set_le x3.1 (at' b x3.2); first | omega | (dsimp only; omega)))⟩ (by first | omega | assumption | (simp only [List.length_append, List.length_cons, List.length_nil, List.length_replicate, put_len] at * <;> omega) | ((have hq := set_le x1.1 (at' base x1.2); first | omega | (dsimp only; omega))) | ((have hq := set_le x2.1 (at' a x2.2); first | omega | (dsimp only; omega))) | ((have hq := set_le x3.1 (at' b x3.2); first | omega | (dsimp only; omega)))) (sub_of [] ⟨rfl, rfl, rfl, rfl, trivial⟩ ⟨rfl, trivial⟩ rfl) ?_ ?_
    · intro x2 i11
      obtain ⟨e36, e37, e38, e39⟩ := i11
      try dsimp only at *
      refine run_seq ?_
      refine run_seq ?_
      refine run_region (q_assign .n (.c rfl) rfl <|
          Lex.nil) ?_
      refine run_block ?_
      refine run_LOOP (m_spec_l27Names_b3 base a b x1 x2) _ _ _ rfl (fun (x3 : (List gSetting) × Int) => 0 ≤ x3.2 ∧ x3.2 ≤ (b.length : Int) ∧ (x3.1.length : Int) ≤ 48 + x3.2) (fun x3 => 0 ≤ x3.2 ∧ x3.2 ≤ (b.length : Int) ∧ (x3.1.length : Int) ≤ 48 + x3.2 ∧ (b.length : Int) ≤ x3.2) (fun x3 => ((b.length : Int) - x3.2 : Int).toNat) (fun x3 => ⟨[(2, some (true, .sl 2 (b.map gSetting.v))), (7, some (true, .os 200 x3.1.length)), (10, some (true, .int .i64 x3.2))], [(200, some (.row 65 2 (x3.1.map gSetting.v)))]⟩) (fun x3 => ⟨[(7, some (true, .os 200 x3.1.length))], [(200, some (.row 65 2 (x3.1.map gSetting.v)))]⟩) ⟨by first | omega | assumption | (simp only [List.length_append, List.length_cons, List.length_nil, List.length_replicate, put_len] at * <;> omega) | ((have hq := set_le x1.1 (at' base x1.2); first | omega | (dsimp only; omega))) | ((have hq := set_le x2.1 (at' a x2.2); first | omega | (dsimp only; omega))) | ((have hq := set_le x3.1 (at' b x3.2); first | omega | (dsimp only; omega))), by first | omega | assumption | (simp only [List.length_append, List.length_cons, List.length_nil, List.length_replicate, put_len] at * <;> omega) | ((have hq := set_le x1.1 (at' base x1.2); first | omega | (dsimp only; omega))) | ((have hq := set_le x2.1 (at' a x2.2); first | omega | (dsimp only; omega))) | ((have hq := set_le x3.1 (at' b x3.2); first | omega | (dsimp only; omega))), by first | omega | assumption | (simp only [List.length_append, List.length_cons, List.length_nil, List.length_replicate, put_len] at * <;> omega) | ((have hq := set_le x1.1 (at' base x1.2); first | omega | (dsimp only; omega))) | ((have hq := set_le x2.1 (at' a x2.2); first | omega | (dsimp only; omega))) | ((have hq := set_le x3.1 (at' b x3.2); first | omega | (dsimp only; omega)))⟩ (by first | omega | assumption | (simp only [List.length_append, List.length_cons, List.length_nil, List.length_replicate, put_len] at * <;> omega) | ((have hq := set_le x1.1 (at' base x1.2); first | omega | (dsimp only; omega))) | ((have hq := set_le x2.1 (at' a x2.2); first | omega | (dsimp only; omega))) | ((have hq := set_le x3.1 (at' b x3.2); first | omega | (dsimp only; omega)))) (sub_of [] ⟨rfl, rfl, rfl, trivial⟩ ⟨rfl, trivial⟩ rfl) ?_ ?_
      · intro x3 i15
        obtain ⟨e29, e30, e31, e32⟩ := i15
        try dsimp only at *
        refine run_seq ?_
        refine run_region (q_bslicem ([] : List (List UInt8)) (f := V.str) (l := 204) .n rfl rfl .nil rfl si_30 zv_9 rfl rfl rfl <|
            q_assign .n (.t rfl) rfl <|
            Lex.nil) ?_
        refine run_seq ?_
        refine run_seq ?_
        refine run_region (q_assign .n (.c rfl) rfl <|
            Lex.nil) ?_
        refine run_block ?_
        refine run_LOOP (m_spec_l27Names_b4 base a b x1 x2 x3) _ _ _ rfl (fun (x4 : (List (List UInt8)) × Int) => 0 ≤ x4.2 ∧ x4.2 ≤ (x3.1.length : Int) ∧ (x4.1.length : Int) + 0 ≤ x4.2 + (([] : List (List UInt8)).length : Int) ∧ (x4.1.length : Int) ≤ x4.2) (fun x4 => 0 ≤ x4.2 ∧ x4.2 ≤ (x3.1.length : Int) ∧ (x4.1.length : Int) + 0 ≤ x4.2 + (([] : List (List UInt8)).length : Int) ∧ (x4.1.length : Int) ≤ x4.2 ∧ (x3.1.length : Int) ≤ x4.2) (fun x4 => ((x3.1.length : Int) - x4.2 : Int).toNat) (fun x4 => ⟨[(7, some (true, .os 200 x3.1.length)), (11, some (true, .os 204 x4.1.length)), (12, some (true, .int .i64 x4.2))], [(200, some (.row 65 2 (x3.1.map gSetting.v))), (204, some (.row 9 1 (x4.1.map V.str)))]⟩) (fun x4 => ⟨[(11, some (true, .os 204 x4.1.length))], [(204, some (.row 9 1 (x4.1.map V.str)))]⟩) ⟨by first | omega | assumption | (simp only [List.length_append, List.length_cons, List.length_nil, List.length_replicate, put_len] at * <;> omega) | ((have hq := set_le x1.1 (at' base x1.2); first | omega | (dsimp only; omega))) | ((have hq := set_le x2.1 (at' a x2.2); first | omega | (dsimp only; omega))) | ((have hq := set_le x3.1 (at' b x3.2); first | omega | (dsimp only; omega))), by first | omega | assumption | (simp only [List.length_append, List.length_cons, List.length_nil, List.length_replicate, put_len] at * <;> omega) | ((have hq := set_le x1.1 (at' base x1.2); first | omega | (dsimp only; omega))) | ((have hq := set_le x2.1 (at' a x2.2); first | omega | (dsimp only; omega))) | ((have hq := set_le x3.1 (at' b x3.2); first | omega | (dsimp only; omega))), by first | omega | assumption | (simp only [List.length_append, List.length_cons, List.length_nil, List.length_replicate, put_len] at * <;> omega) | ((have hq := set_le x1.1 (at' base x1.2); first | omega | (dsimp only; omega))) | ((have hq := set_le x2.1 (at' a x2.2); first | omega | (dsimp only; omega))) | ((have hq := set_le x3.1 (at' b x3.2); first | omega | (dsimp only; omega))), by first | omega | assumption | (simp only [List.length_append, List.length_cons, List.length_nil, List.length_replicate, put_len] at * <;> omega) | ((have hq := set_le x1.1 (at' base x1.2); first | omega | (dsimp only; omega))) | ((have hq := set_le x2.1 (at' a x2.2); first | omega | (dsimp only; omega))) | ((have hq := set_le x3.1 (at' b x3.2); first | omega | (dsimp only; omega)))⟩ (by first | omega | assumption | (simp only [List.length_append, List.length_cons, List.length_nil, List.length_replicate, put_len] at * <;> omega) | ((have hq := set_le x1.1 (at' base x1.2); first | omega | (dsimp only; omega))) | ((have hq := set_le x2.1 (at' a x2.2); first | omega | (dsimp only; omega))) | ((have hq := set_le x3.1 (at' b x3.2); first | omega | (dsimp only; omega)))) (sub_of [] ⟨rfl, rfl, rfl, trivial⟩ ⟨rfl, rfl, trivial⟩ rfl) ?_ ?_
        · intro x4 i19
          obtain ⟨e20, e21, e22, e23, e24⟩ := i19
          try dsimp only at *
          refine run_seq ?_
          refine run_region (q_move .n (.t rfl) rfl <|
              q_assign .n (.t rfl) rfl <|
              Lex.nil) ?_
          exact run_ret [(100, 204)] (.cons (.t rfl rfl) .nil) (by first | rfl | (simp only [put_len]; rfl)) ⟨rfl, trivial⟩ rfl
        · intro rec4 k4 hk16 x4 i17
          obtain ⟨e25, e26, e27, e28⟩ := i17
          try dsimp only at *
          refine run_seq ?_
          refine run_seq ?_
          refine run_region (q_move .n (.t rfl) rfl <|
              q_move .n (.t rfl) rfl <|
              q_len .n (.t rfl) rfl rfl ss_40 rfl <|
              q_int .n (.t rfl) (.t rfl) rfl rfl <|
              Lex.nil) ?_
          refine run_cond (.t rfl) rfl (fun h18 => ?_) (fun h18 => ?_)
          · try simp only [Bool.and_eq_true, Bool.or_eq_true, Bool.not_eq_true', Bool.and_eq_false_iff, Bool.or_eq_false_iff, Bool.not_eq_false', decide_eq_true_eq, decide_eq_false_iff_not, beq_iff_eq, bne_iff_ne, beq_eq_false_iff_ne, bne_eq_false_iff_eq, Bool.true_and, ne_eq, Decidable.not_not, Int.not_lt, Int.not_le, Nat.not_lt, Nat.not_le, strB_nil, strB_nil', strB_nnil, strB_nnil'] at h18
            refine run_skip ?_
            refine run_seq ?_
            refine run_block ?_
            refine run_region (q_move .n (.t rfl) rfl <|
                q_move .n (.t rfl) rfl <|
                q_move .n (.t rfl) rfl <|
                q_idx_ow .n (.t rfl) (.t rfl) sl_40 (fun _ => by first | omega | assumption | (simp only [List.length_append, List.length_cons, List.length_nil, List.length_replicate, put_len] at * <;> omega) | ((have hq := set_le x1.1 (at' base x1.2); first | omega | (dsimp only; omega))) | ((have hq := set_le x2.1 (at' a x2.2); first | omega | (dsimp only; omega))) | ((have hq := set_le x3.1 (at' b x3.2); first | omega | (dsimp only; omega)))) rfl <|
                q_fld_ow .n (.t rfl) fo_65_0 rfl <|
                q_ld1_row .n (.t rfl) rfl (fun _ => by first | omega | assumption | (simp only [List.length_append, List.length_cons, List.length_nil, List.length_replicate, put_len] at * <;> omega) | ((have hq := set_le x1.1 (at' base x1.2); first | omega | (dsimp only; omega))) | ((have hq := set_le x2.1 (at' a x2.2); first | omega | (dsimp only; omega))) | ((have hq := set_le x3.1 (at' b x3.2); first | omega | (dsimp only; omega)))) rfl rfl rfl ic_9 rfl <|
                q_bslicem ([(at' x3.1 x4.2).Name] : List (List UInt8)) (f := V.str) (l := 205) .n rfl rfl (.cons (.t rfl) .nil) rfl si_30 zv_9 rfl rfl rfl <|
                q_appm (xs := x4.1) (ys := ([(at' x3.1 x4.2).Name] : List (List UInt8))) (f := V.str) (l := 206) .n rfl (.ow (.t rfl) rfl (take_all (by simp only [len_map, put_len] <;> rfl)) (by simp only [len_map, put_len] <;> rfl)) (.ow (.t rfl) rfl (take_all (by simp only [len_map, put_len] <;> rfl)) (by simp only [len_map, put_len] <;> rfl)) si_30 zv_9 rfl (by first | omega | assumption | (simp only [List.length_append, List.length_cons, List.length_nil, List.length_replicate, put_len] at * <;> omega) | ((have hq := set_le x1.1 (at' base x1.2); first | omega | (dsimp only; omega))) | ((have hq := set_le x2.1 (at' a x2.2); first | omega | (dsimp only; omega))) | ((have hq := set_le x3.1 (at' b x3.2); first | omega | (dsimp only; omega)))) rfl rfl <|
                q_assign .n (.t rfl) rfl <|
                Lex.nil) ?_
            refine run_endB ?_
            refine run_region (q_move .n (.t rfl) rfl <|
                q_add .n (.t rfl) (.c rfl) (fun _ => by first | omega | assumption | (simp only [List.length_append, List.length_cons, List.length_nil, List.length_replicate, put_len] at * <;> omega) | ((have hq := set_le x1.1 (at' base x1.2); first | omega | (dsimp only; omega))) | ((have hq := set_le x2.1 (at' a x2.2); first | omega | (dsimp only; omega))) | ((have hq := set_le x3.1 (at' b x3.2); first | omega | (dsimp only; omega)))) rfl <|
                q_assign .n (.t rfl) rfl <|
                Lex.nil) ?_
            exact run_again (x4.1 ++ ([(at' x3.1 x4.2).Name] : List (List UInt8)), x4.2 + 1) ⟨by first | omega | assumption | (simp only [List.length_append, List.length_cons, List.length_nil, List.length_replicate, put_len] at * <;> omega) | ((have hq := set_le x1.1 (at' base x1.2); first | omega | (dsimp only; omega))) | ((have hq := set_le x2.1 (at' a x2.2); first | omega | (dsimp only; omega))) | ((have hq := set_le x3.1 (at' b x3.2); first | omega | (dsimp only; omega))), by first | omega | assumption | (simp only [List.length_append, List.length_cons, List.length_nil, List.length_replicate, put_len] at * <;> omega) | ((have hq := set_le x1.1 (at' base x1.2); first | omega | (dsimp only; omega))) | ((have hq := set_le x2.1 (at' a x2.2); first | omega | (dsimp only; omega))) | ((have hq := set_le x3.1 (at' b x3.2); first | omega | (dsimp only; omega))), by first | omega | assumption | (simp only [List.length_append, List.length_cons, List.length_nil, List.length_replicate, put_len] at * <;> omega) | ((have hq := set_le x1.1 (at' base x1.2); first | omega | (dsimp only; omega))) | ((have hq := set_le x2.1 (at' a x2.2); first | omega | (dsimp only; omega))) | ((have hq := set_le x3.1 (at' b x3.2); first | omega | (dsimp only; omega))), by first | omega | assumption | (simp only [List.length_append, List.length_cons, List.length_nil, List.length_replicate, put_len] at * <;> omega) | ((have hq := set_le x1.1 (at' base x1.2); first | omega | (dsimp only; omega))) | ((have hq := set_le x2.1 (at' a x2.2); first | omega | (dsimp only; omega))) | ((have hq := set_le x3.1 (at' b x3.2); first | omega | (dsimp only; omega)))⟩ (by first | omega | assumption | (simp only [List.length_append, List.length_cons, List.length_nil, List.length_replicate, put_len] at * <;> omega) | ((have hq := set_le x1.1 (at' base x1.2); first | omega | (dsimp only; omega))) | ((have hq := set_le x2.1 (at' a x2.2); first | omega | (dsimp only; omega))) | ((have hq := set_le x3.1 (at' b x3.2); first | omega | (dsimp only; omega)))) (sub_of [(204, 206)] ⟨rfl, rfl, rfl, trivial⟩ ⟨rfl, rfl, trivial⟩ rfl)
          · try simp only [Bool.and_eq_true, Bool.or_eq_true, Bool.not_eq_true', Bool.and_eq_false_iff, Bool.or_eq_false_iff, Bool.not_eq_false', decide_eq_true_eq, decide_eq_false_iff_not, beq_iff_eq, bne_iff_ne, beq_eq_false_iff_ne, bne_eq_false_iff_eq, Bool.true_and, ne_eq, Decidable.not_not, Int.not_lt, Int.not_le, Nat.not_lt, Nat.not_le, strB_nil, strB_nil', strB_nnil, strB_nnil'] at h18
            refine run_exit rfl ?_
            exact run_cont hk16 (x4.1, x4.2) ⟨by first | omega | assumption | (simp only [List.length_append, List.length_cons, List.length_nil, List.length_replicate, put_len] at * <;> omega) | ((have hq := set_le x1.1 (at' base x1.2); first | omega | (dsimp only; omega))) | ((have hq := set_le x2.1 (at' a x2.2); first | omega | (dsimp only; omega))) | ((have hq := set_le x3.1 (at' b x3.2); first | omega | (dsimp only; omega))), by first | omega | assumption | (simp only [List.length_append, List.length_cons, List.length_nil, List.length_replicate, put_len] at * <;> omega) | ((have hq := set_le x1.1 (at' base x1.2); first | omega | (dsimp only; omega))) | ((have hq := set_le x2.1 (at' a x2.2); first | omega | (dsimp only; omega))) | ((have hq := set_le x3.1 (at' b x3.2); first | omega | (dsimp only; omega))), by first | omega | assumption | (simp only [List.length_append, List.length_cons, List.length_nil, List.length_replicate, put_len] at * <;> omega) | ((have hq := set_le x1.1 (at' base x1.2); first | omega | (dsimp only; omega))) | ((have hq := set_le x2.1 (at' a x2.2); first | omega | (dsimp only; omega))) | ((have hq := set_le x3.1 (at' b x3.2); first | omega | (dsimp only; omega))), by first | omega | assumption | (simp only [List.length_append, List.length_cons, List.length_nil, List.length_replicate, put_len] at * <;> omega) | ((have hq := set_le x1.1 (at' base x1.2); first | omega | (dsimp only; omega))) | ((have hq := set_le x2.1 (at' a x2.2); first | omega | (dsimp only; omega))) | ((have hq := set_le x3.1 (at' b x3.2); first | omega | (dsimp only; omega))), by first | omega | assumption | (simp only [List.length_append, List.length_cons, List.length_nil, List.length_replicate, put_len] at * <;> omega) | ((have hq := set_le x1.1 (at' base x1.2); first | omega | (dsimp only; omega))) | ((have hq := set_le x2.1 (at' a x2.2); first | omega | (dsimp only; omega))) | ((have hq := set_le x3.1 (at' b x3.2); first | omega | (dsimp only; omega)))⟩ (sub_of [] ⟨rfl, trivial⟩ ⟨rfl, trivial⟩ rfl)
      · intro rec3 k3 hk12 x3 i13
        obtain ⟨e33, e34, e35⟩ := i13
        try dsimp only at *
        refine run_seq ?_
        refine run_seq ?_
        refine run_region (q_move .n (.t rfl) rfl <|
            q_move .n (.t rfl) rfl <|
            q_len .n (.t rfl) rfl len_map ss_40 rfl <|
            q_int .n (.t rfl) (.t rfl) rfl rfl <|
            Lex.nil) ?_
        refine run_cond (.t rfl) rfl (fun h14 => ?_) (fun h14 => ?_)
        · try simp only [Bool.and_eq_true, Bool.or_eq_true, Bool.not_eq_true', Bool.and_eq_false_iff, Bool.or_eq_false_iff, Bool.not_eq_false', decide_eq_true_eq, decide_eq_false_iff_not, beq_iff_eq, bne_iff_ne, beq_eq_false_iff_ne, bne_eq_false_iff_eq, Bool.true_and, ne_eq, Decidable.not_not, Int.not_lt, Int.not_le, Nat.not_lt, Nat.not_le, strB_nil, strB_nil', strB_nnil, strB_nnil'] at h14
          refine run_skip ?_
          refine run_seq ?_
          refine run_block ?_
          refine run_region (q_move .n (.t rfl) rfl <|
              q_move .n (.t rfl) rfl <|
              q_move .n (.t rfl) rfl <|
              q_idx_rm .n (.t rfl) (.t rfl) sl_40 (fun _ => by first | omega | assumption | (simp only [List.length_append, List.length_cons, List.length_nil, List.length_replicate, put_len] at * <;> omega) | ((have hq := set_le x1.1 (at' base x1.2); first | omega | (dsimp only; omega))) | ((have hq := set_le x2.1 (at' a x2.2); first | omega | (dsimp only; omega))) | ((have hq := set_le x3.1 (at' b x3.2); first | omega | (dsimp only; omega)))) rfl <|
              q_ldN_ro .n (.t rfl) ag_65 rfl rfl rfl <|
              q_callM (full := true) [] [(100, 203)] .n rfl .f en_85 (.cons (.t rfl) (.cons (.t rfl) .nil)) (.cons (.b (.a (.own rfl rfl rfl (take_all (by simp only [len_map, put_len] <;> rfl)) (by simp only [len_map, put_len] <;> rfl)))) (.cons (.sts rfl) .nil)) (c_spec_l27Set x3.1 (at' b x3.2) (by first | omega | assumption | (simp only [List.length_append, List.length_cons, List.length_nil, List.length_replicate, put_len] at * <;> omega) | ((have hq := set_le x1.1 (at' base x1.2); first | omega | (dsimp only; omega))) | ((have hq := set_le x2.1 (at' a x2.2); first | omega | (dsimp only; omega))) | ((have hq := set_le x3.1 (at' b x3.2); first | omega | (dsimp only; omega))))) trivial rfl rfl (fun _ => rfl) (fun _ => (hr_row (fun _ => rfl) hr_nil)) rfl <|
              q_assign .n (.t rfl) rfl <|
              Lex.nil) ?_
          refine run_endB ?_
          refine run_region (q_move .n (.t rfl) rfl <|
              q_add .n (.t rfl) (.c rfl) (fun _ => by first | omega | assumption | (simp only [List.length_append, List.length_cons, List.length_nil, List.length_replicate, put_len] at * <;> omega) | ((have hq := set_le x1.1 (at' base x1.2); first | omega | (dsimp only; omega))) | ((have hq := set_le x2.1 (at' a x2.2); first | omega | (dsimp only; omega))) | ((have hq := set_le x3.1 (at' b x3.2); first | omega | (dsimp only; omega)))) rfl <|
              q_assign .n (.t rfl) rfl <|
              Lex.nil) ?_
          exact run_again (m_spec_l27Set x3.1 (at' b x3.2), x3.2 + 1) ⟨by first | omega | assumption | (simp only [List.length_append, List.length_cons, List.length_nil, List.length_replicate, put_len] at * <;> omega) | ((have hq := set_le x1.1 (at' base x1.2); first | omega | (dsimp only; omega))) | ((have hq := set_le x2.1 (at' a x2.2); first | omega | (dsimp only; omega))) | ((have hq := set_le x3.1 (at' b x3.2); first | omega | (dsimp only; omega))), by first | omega | assumption | (simp only [List.length_append, List.length_cons, List.length_nil, List.length_replicate, put_len] at * <;> omega) | ((have hq := set_le x1.1 (at' base x1.2); first | omega | (dsimp only; omega))) | ((have hq := set_le x2.1 (at' a x2.2); first | omega | (dsimp only; omega))) | ((have hq := set_le x3.1 (at' b x3.2); first | omega | (dsimp only; omega))), by first | omega | assumption | (simp only [List.length_append, List.length_cons, List.length_nil, List.length_replicate, put_len] at * <;> omega) | ((have hq := set_le x1.1 (at' base x1.2); first | omega | (dsimp only; omega))) | ((have hq := set_le x2.1 (at' a x2.2); first | omega | (dsimp only; omega))) | ((have hq := set_le x3.1 (at' b x3.2); first | omega | (dsimp only; omega)))⟩ (by first | omega | assumption | (simp only [List.length_append, List.length_cons, List.length_nil, List.length_replicate, put_len] at * <;> omega) | ((have hq := set_le x1.1 (at' base x1.2); first | omega | (dsimp only; omega))) | ((have hq := set_le x2.1 (at' a x2.2); first | omega | (dsimp only; omega))) | ((have hq := set_le x3.1 (at' b x3.2); first | omega | (dsimp only; omega)))) (sub_of [(200, 203)] ⟨rfl, rfl, rfl, trivial⟩ ⟨rfl, trivial⟩ rfl)
        · try simp only [Bool.and_eq_true, Bool.or_eq_true, Bool.not_eq_true', Bool.and_eq_false_iff, Bool.or_eq_false_iff, Bool.not_eq_false', decide_eq_true_eq, decide_eq_false_iff_not, beq_iff_eq, bne_iff_ne, beq_eq_false_iff_ne, bne_eq_false_iff_eq, Bool.true_and, ne_eq, Decidable.not_not, Int.not_lt, Int.not_le, Nat.not_lt, Nat.not_le, strB_nil, strB_nil', strB_nnil, strB_nnil'] at h14
          refine run_exit rfl ?_
          exact run_cont hk12 (x3.1, x3.2) ⟨by first | omega | assumption | (simp only [List.length_append, List.length_cons, List.length_nil, List.length_replicate, put_len] at * <;> omega) | ((have hq := set_le x1.1 (at' base x1.2); first | omega | (dsimp only; omega))) | ((have hq := set_le x2.1 (at' a x2.2); first | omega | (dsimp only; omega))) | ((have hq := set_le x3.1 (at' b x3.2); first | omega | (dsimp only; omega))), by first | omega | assumption | (simp only [List.length_append, List.length_cons, List.length_nil, List.length_replicate, put_len] at * <;> omega) | ((have hq := set_le x1.1 (at' base x1.2); first | omega | (dsimp only; omega))) | ((have hq := set_le x2.1 (at' a x2.2); first | omega | (dsimp only; omega))) | ((have hq := set_le x3.1 (at' b x3.2); first | omega | (dsimp only; omega))), by first | omega | assumption | (simp only [List.length_append, List.length_cons, List.length_nil, List.length_replicate, put_len] at * <;> omega) | ((have hq := set_le x1.1 (at' base x1.2); first | omega | (dsimp only; omega))) | ((have hq := set_le x2.1 (at' a x2.2); first | omega | (dsimp only; omega))) | ((have hq := set_le x3.1 (at' b x3.2); first | omega | (dsimp only; omega))), by first | omega | assumption | (simp only [List.length_append, List.length_cons, List.length_nil, List.length_replicate, put_len] at * <;> omega) | ((have hq := set_le x1.1 (at' base x1.2); first | omega | (dsimp only; omega))) | ((have hq := set_le x2.1 (at' a x2.2); first | omega | (dsimp only; omega))) | ((have hq := set_le x3.1 (at' b x3.2); first | omega | (dsimp only; omega)))⟩ (sub_of [] ⟨rfl, trivial⟩ ⟨rfl, trivial⟩ rfl)
    · intro rec2 k2 hk8 x2 i9
      obtain ⟨e40, e41, e42⟩ := i9
      try dsimp only at *
      refine run_seq ?_
      refine run_seq ?_
      refine run_region (q_move .n (.t rfl) rfl <|
          q_move .n (.t rfl) rfl <|
          q_len .n (.t rfl) rfl len_map ss_40 rfl <|
          q_int .n (.t rfl) (.t rfl) rfl rfl <|
          Lex.nil) ?_
      refine run_cond (.t rfl) rfl (fun h10 => ?_) (fun h10 => ?_)
      · try simp only [Bool.and_eq_true, Bool.or_eq_true, Bool.not_eq_true', Bool.and_eq_false_iff, Bool.or_eq_false_iff, Bool.not_eq_false', decide_eq_true_eq, decide_eq_false_iff_not, beq_iff_eq, bne_iff_ne, beq_eq_false_iff_ne, bne_eq_false_iff_eq, Bool.true_and, ne_eq, Decidable.not_not, Int.not_lt, Int.not_le, Nat.not_lt, Nat.not_le, strB_nil, strB_nil', strB_nnil, strB_nnil'] at h10
        refine run_skip ?_
        refine run_seq ?_
        refine run_block ?_
        refine run_region (q_move .n (.t rfl) rfl <|
            q_move .n (.t rfl) rfl <|
            q_move .n (.t rfl) rfl <|
            q_idx_rm .n (.t rfl) (.t rfl) sl_40 (fun _ => by first | omega | assumption | (simp only [List.length_append, List.length_cons, List.length_nil, List.length_replicate, put_len] at * <;> omega) | ((have hq := set_le x1.1 (at' base x1.2); first | omega | (dsimp only; omega))) | ((have hq := set_le x2.1 (at' a x2.2); first | omega | (dsimp only; omega))) | ((have hq := set_le x3.1 (at' b x3.2); first | omega | (dsimp only; omega)))) rfl <|
            q_ldN_ro .n (.t rfl) ag_65 rfl rfl rfl <|
            q_callM (full := true) [] [(100, 202)] .n rfl .f en_85 (.cons (.t rfl) (.cons (.t rfl) .nil)) (.cons (.b (.a (.own rfl rfl rfl (take_all (by simp only [len_map, put_len] <;> rfl)) (by simp only [len_map, put_len] <;> rfl)))) (.cons (.sts rfl) .nil)) (c_spec_l27Set x2.1 (at' a x2.2) (by first | omega | assumption | (simp only [List.length_append, List.length_cons, List.length_nil, List.length_replicate, put_len] at * <;> omega) | ((have hq := set_le x1.1 (at' base x1.2); first | omega | (dsimp only; omega))) | ((have hq := set_le x2.1 (at' a x2.2); first | omega | (dsimp only; omega))) | ((have hq := set_le x3.1 (at' b x3.2); first | omega | (dsimp only; omega))))) trivial rfl rfl (fun _ => rfl) (fun _ => (hr_row (fun _ => rfl) hr_nil)) rfl <|
            q_assign .n (.t rfl) rfl <|
            Lex.nil) ?_
        refine run_endB ?_
        refine run_region (q_move .n (.t rfl) rfl <|
            q_add .n (.t rfl) (.c rfl) (fun _ => by first | omega | assumption | (simp only [List.length_append, List.length_cons, List.length_nil, List.length_replicate, put_len] at * <;> omega) | ((have hq := set_le x1.1 (at' base x1.2); first | omega | (dsimp only; omega))) | ((have hq := set_le x2.1 (at' a x2.2); first | omega | (dsimp only; omega))) | ((have hq := set_le x3.1 (at' b x3.2); first | omega | (dsimp only; omega)))) rfl <|
            q_assign .n (.t rfl) rfl <|
            Lex.nil) ?_
        exact run_again (m_spec_l27Set x2.1 (at' a x2.2), x2.2 + 1) ⟨by first | omega | assumption | (simp only [List.length_append, List.length_cons, List.length_nil, List.length_replicate, put_len] at * <;> omega) | ((have hq := set_le x1.1 (at' base x1.2); first | omega | (dsimp only; omega))) | ((have hq := set_le x2.1 (at' a x2.2); first | omega | (dsimp only; omega))) | ((have hq := set_le x3.1 (at' b x3.2); first | omega | (dsimp only; omega))), by first | omega | assumption | (simp only [List.length_append, List.length_cons, List.length_nil, List.length_replicate, put_len] at * <;> omega) | ((have hq := set_le x1.1 (at' base x1.2); first | omega | (dsimp only; omega))) | ((have hq := set_le x2.1 (at' a x2.2); first | omega | (dsimp only; omega))) | ((have hq := set_le x3.1 (at' b x3.2); first | omega | (dsimp only; omega))), by first | omega | assumption | (simp only [List.length_append, List.length_cons, List.length_nil, List.length_replicate, put_len] at * <;> omega) | ((have hq := set_le x1.1 (at' base x1.2); first | omega | (dsimp only; omega))) | ((have hq := set_le x2.1 (at' a x2.2); first | omega | (dsimp only; omega))) | ((have hq := set_le x3.1 (at' b x3.2); first | omega | (dsimp only; omega)))⟩ (by first | omega | assumption | (simp only [List.length_append, List.length_cons, List.length_nil, List.length_replicate, put_len] at * <;> omega) | ((have hq := set_le x1.1 (at' base x1.2); first | omega | (dsimp only; omega))) | ((have hq := set_le x2.1 (at' a x2.2); first | omega | (dsimp only; omega))) | ((have hq := set_le x3.1 (at' b x3.2); first | omega | (dsimp only; omega)))) (sub_of [(200, 202)] ⟨rfl, rfl, rfl, rfl, trivial⟩ ⟨rfl, trivial⟩ rfl)
      · try simp only [Bool.and_eq_true, Bool.or_eq_true, Bool.not_eq_true', Bool.and_eq_false_iff, Bool.or_eq_false_iff, Bool.not_eq_false', decide_eq_true_eq, decide_eq_false_iff_not, beq_iff_eq, bne_iff_ne, beq_eq_false_iff_ne, bne_eq_false_iff_eq, Bool.true_and, ne_eq, Decidable.not_not, Int.not_lt, Int.not_le, Nat.not_lt, Nat.not_le, strB_nil, strB_nil', strB_nnil, strB_nnil'] at h10
        refine run_exit rfl ?_
        exact run_cont hk8 (x2.1, x2.2) ⟨by first | omega | assumption | (simp only [List.length_append, List.length_cons, List.length_nil, List.length_replicate, put_len] at * <;> omega) | ((have hq := set_le x1.1 (at' base x1.2); first | omega | (dsimp only; omega))) | ((have hq := set_le x2.1 (at' a x2.2); first | omega | (dsimp only; omega))) | ((have hq := set_le x3.1 (at' b x3.2); first | omega | (dsimp only; omega))), by first | omega | assumption | (simp only [List.length_append, List.length_cons, List.length_nil, List.length_replicate, put_len] at * <;> omega) | ((have hq := set_le x1.1 (at' base x1.2); first | omega | (dsimp only; omega))) | ((have hq := set_le x2.1 (at' a x2.2); first | omega | (dsimp only; omega))) | ((have hq := set_le x3.1 (at' b x3.2); first | omega | (dsimp only; omega))), by first | omega | assumption | (simp only [List.length_append, List.length_cons, List.length_nil, List.length_replicate, put_len] at * <;> omega) | ((have hq := set_le x1.1 (at' base x1.2); first | omega | (dsimp only; omega))) | ((have hq := set_le x2.1 (at' a x2.2); first | omega | (dsimp only; omega))) | ((have hq := set_le x3.1 (at' b x3.2); first | omega | (dsimp only; omega))), by first | omega | assumption | (simp only [List.length_append, List.length_cons, List.length_nil, List.length_replicate, put_len] at * <;> omega) | ((have hq := set_le x1.1 (at' base x1.2); first | omega | (dsimp only; omega))) | ((have hq := set_le x2.1 (at' a x2.2); first | omega | (dsimp only; omega))) | ((have hq := set_le x3.1 (at' b x3.2); first | omega | (dsimp only; omega)))⟩ (sub_of [] ⟨rfl, rfl, trivial⟩ ⟨rfl, trivial⟩ rfl)
  · intro rec1 k1 hk4 x1 i5
    obtain ⟨e47, e48, e49⟩ := i5
    try dsimp only at *
    refine run_seq ?_
    refine run_seq ?_
    refine run_region (q_move .n (.t rfl) rfl <|
        q_move .n (.t rfl) rfl <|
        q_len .n (.t rfl) rfl len_map ss_40 rfl <|
        q_int .n (.t rfl) (.t rfl) rfl rfl <|
        Lex.nil) ?_
    refine run_cond (.t rfl) rfl (fun h6 => ?_) (fun h6 => ?_)
    · try simp only [Bool.and_eq_true, Bool.or_eq_true, Bool.not_eq_true', Bool.and_eq_false_iff, Bool.or_eq_false_iff, Bool.not_eq_false', decide_eq_true_eq, decide_eq_false_iff_not, beq_iff_eq, bne_iff_ne, beq_eq_false_iff_ne, bne_eq_false_iff_eq, Bool.true_and, ne_eq, Decidable.not_not, Int.not_lt, Int.not_le, Nat.not_lt, Nat.not_le, strB_nil, strB_nil', strB_nnil, strB_nnil'] at h6
      refine run_skip ?_
      refine run_seq ?_
      refine run_block ?_
      refine run_region (q_move .n (.t rfl) rfl <|
          q_move .n (.t rfl) rfl <|
          q_move .n (.t rfl) rfl <|
          q_idx_rm .n (.t rfl) (.t rfl) sl_40 (fun _ => by first | omega | assumption | (simp only [List.length_append, List.length_cons, List.length_nil, List.length_replicate, put_len] at * <;> omega) | ((have hq := set_le x1.1 (at' base x1.2); first | omega | (dsimp only; omega))) | ((have hq := set_le x2.1 (at' a x2.2); first | omega | (dsimp only; omega))) | ((have hq := set_le x3.1 (at' b x3.2); first | omega | (dsimp only; omega)))) rfl <|
          q_ldN_ro .n (.t rfl) ag_65 rfl rfl rfl <|
          q_callM (full := true) [] [(100, 201)] .n rfl .f en_85 (.cons (.t rfl) (.cons (.t rfl) .nil)) (.cons (.b (.a (.own rfl rfl rfl (take_all (by simp only [len_map, put_len] <;> rfl)) (by simp only [len_map, put_len] <;> rfl)))) (.cons (.sts rfl) .nil)) (c_spec_l27Set x1.1 (at' base x1.2) (by first | omega | assumption | (simp only [List.length_append, List.length_cons, List.length_nil, List.length_replicate, put_len] at * <;> omega) | ((have hq := set_le x1.1 (at' base x1.2); first | omega | (dsimp only; omega))) | ((have hq := set_le x2.1 (at' a x2.2); first | omega | (dsimp only; omega))) | ((have hq := set_le x3.1 (at' b x3.2); first | omega | (dsimp only; omega))))) trivial rfl rfl (fun _ => rfl) (fun _ => (hr_row (fun _ => rfl) hr_nil)) rfl <|
          q_assign .n (.t rfl) rfl <|
          Lex.nil) ?_
      refine run_endB ?_
      refine run_region (q_move .n (.t rfl) rfl <|
          q_add .n (.t rfl) (.c rfl) (fun _ => by first | omega | assumption | (simp only [List.length_append, List.length_cons, List.length_nil, List.length_replicate, put_len] at * <;> omega) | ((have hq := set_le x1.1 (at' base x1.2); first | omega | (dsimp only; omega))) | ((have hq := set_le x2.1 (at' a x2.2); first | omega | (dsimp only; omega))) | ((have hq := set_le x3.1 (at' b x3.2); first | omega | (dsimp only; omega)))) rfl <|
          q_assign .n (.t rfl) rfl <|
          Lex.nil) ?_
      exact run_again (m_spec_l27Set x1.1 (at' base x1.2), x1.2 + 1) ⟨by first | omega | assumption | (simp only [List.length_append, List.length_cons, List.length_nil, List.length_replicate, put_len] at * <;> omega) | ((have hq := set_le x1.1 (at' base x1.2); first | omega | (dsimp only; omega))) | ((have hq := set_le x2.1 (at' a x2.2); first | omega | (dsimp only; omega))) | ((have hq := set_le x3.1 (at' b x3.2); first | omega | (dsimp only; omega))), by first | omega | assumption | (simp only [List.length_append, List.length_cons, List.length_nil, List.length_replicate, put_len] at * <;> omega) | ((have hq := set_le x1.1 (at' base x1.2); first | omega | (dsimp only; omega))) | ((have hq := set_le x2.1 (at' a x2.2); first | omega | (dsimp only; omega))) | ((have hq := set_le x3.1 (at' b x3.2); first | omega | (dsimp only; omega))), by first | omega | assumption | (simp only [List.length_append, List.length_cons, List.length_nil, List.length_replicate, put_len] at * <;> omega) | ((have hq := set_le x1.1 (at' base x1.2); first | omega | (dsimp only; omega))) | ((have hq := set_le x2.1 (at' a x2.2); first | omega | (dsimp only; omega))) | ((have hq := set_le x3.1 (at' b x3.2); first | omega | (dsimp only; omega)))⟩ (by first | omega | assumption | (simp only [List.length_append, List.length_cons, List.length_nil, List.length_replicate, put_len] at * <;> omega) | ((have hq := set_le x1.1 (at' base x1.2); first | omega | (dsimp only; omega))) | ((have hq := set_le x2.1 (at' a x2.2); first | omega | (dsimp only; omega))) | ((have hq := set_le x3.1 (at' b x3.2); first | omega | (dsimp only; omega)))) (sub_of [(200, 201)] ⟨rfl, rfl, rfl, rfl, rfl, trivial⟩ ⟨rfl, trivial⟩ rfl)
    · try simp only [Bool.and_eq_true, Bool.or_eq_true, Bool.not_eq_true', Bool.and_eq_false_iff, Bool.or_eq_false_iff, Bool.not_eq_false', decide_eq_true_eq, decide_eq_false_iff_not, beq_iff_eq, bne_iff_ne, beq_eq_false_iff_ne, bne_eq_false_iff_eq, Bool.true_and, ne_eq, Decidable.not_not, Int.not_lt, Int.not_le, Nat.not_lt, Nat.not_le, strB_nil, strB_nil', strB_nnil, strB_nnil'] at h6
      refine run_exit rfl ?_
      exact run_cont hk4 (x1.1, x1.2) ⟨by first | omega | assumption | (simp only [List.length_append, List.length_cons, List.length_nil, List.length_replicate, put_len] at * <;> omega) | ((have hq := set_le x1.1 (at' base x1.2); first | omega | (dsimp only; omega))) | ((have hq := set_le x2.1 (at' a x2.2); first | omega | (dsimp only; omega))) | ((have hq := set_le x3.1 (at' b x3.2); first | omega | (dsimp only; omega))), by first | omega | assumption | (simp only [List.length_append, List.length_cons, List.length_nil, List.length_replicate, put_len] at * <;> omega) | ((have hq := set_le x1.1 (at' base x1.2); first | omega | (dsimp only; omega))) | ((have hq := set_le x2.1 (at' a x2.2); first | omega | (dsimp only; omega))) | ((have hq := set_le x3.1 (at' b x3.2); first | omega | (dsimp only; omega))), by first | omega | assumption | (simp only [List.length_append, List.length_cons, List.length_nil, List.length_replicate, put_len] at * <;> omega) | ((have hq := set_le x1.1 (at' base x1.2); first | omega | (dsimp only; omega))) | ((have hq := set_le x2.1 (at' a x2.2); first | omega | (dsimp only; omega))) | ((have hq := set_le x3.1 (at' b x3.2); first | omega | (dsimp only; omega))), by first | omega | assumption | (simp only [List.length_append, List.length_cons, List.length_nil, List.length_replicate, put_len] at * <;> omega) | ((have hq := set_le x1.1 (at' base x1.2); first | omega | (dsimp only; omega))) | ((have hq := set_le x2.1 (at' a x2.2); first | omega | (dsimp only; omega))) | ((have hq := set_le x3.1 (at' b x3.2); first | omega | (dsimp only; omega)))⟩ (sub_of [] ⟨rfl, rfl, rfl, trivial⟩ ⟨rfl, trivial⟩ rfl)

/-! ### spec_l27At -/
theorem c_spec_l27At (list : List gSetting) (name : List UInt8) : Con Try.prog 86 [.sl 2 (list.map gSetting.v), .str name] [] (.int .i64 (m_spec_l27At list name)) ([]) := by
  refine con_intro (out := fun r : Int => ((.int .i64 r : V), ([] : List (Nat × Option O)))) (r := (m_spec_l27At list name)) Try.func86 rfl Try.ntmps86 rfl ?_
  refine run_fact (t := 0) rfl fun hl => ?_
  have l1 := hl; clear hl; simp only [List.length_map] at l1
  refine run_seq ?_
  refine run_region (q_assign .n (.c rfl) rfl <|
      Lex.nil) ?_
  refine run_seq ?_
  refine run_seq ?_
  refine run_region (q_assign .n (.c rfl) rfl <|
      Lex.nil) ?_
  refine run_block ?_
  refine run_LOOP (m_spec_l27At_b1 list name) _ _ _ rfl (fun (x1 : Int) => 0 ≤ x1 ∧ x1 ≤ (list.length : Int)) (fun x1 => 0 ≤ x1 ∧ x1 ≤ (list.length : Int) ∧ (list.length : Int) ≤ x1) (fun x1 => ((list.length : Int) - x1 : Int).toNat) (fun x1 => ⟨[(0, some (true, .sl 2 (list.map gSetting.v))), (1, some (true, .str name)), (5, some (true, .int .i64 x1))], []⟩) (fun x1 => ⟨[], []⟩) ⟨by first | omega | assumption | (simp only [List.length_append, List.length_cons, List.length_nil, List.length_replicate, put_len] at * <;> omega), by first | omega | assumption | (simp only [List.length_append, List.length_cons, List.length_nil, List.length_replicate, put_len] at * <;> omega)⟩ (by first | omega | assumption | (simp only [List.length_append, List.length_cons, List.length_nil, List.length_replicate, put_len] at * <;> omega)) (sub_of [] ⟨rfl, rfl, rfl, trivial⟩ trivial rfl) ?_ ?_
  · intro x1 i6
    obtain ⟨e7, e8, e9⟩ := i6
    try dsimp only at *
    refine run_seq ?_
    refine run_region (q_assign .n (.c rfl) rfl <|
        Lex.nil) ?_
    exact run_ret [] (.cons (.t rfl rfl) .nil) rfl trivial rfl
  · intro rec1 k1 hk2 x1 i3
    obtain ⟨e10, e11⟩ := i3
    try dsimp only at *
    refine run_seq ?_
    refine run_seq ?_
    refine run_region (q_move .n (.t rfl) rfl <|
        q_move .n (.t rfl) rfl <|
        q_len .n (.t rfl) rfl len_map ss_40 rfl <|
        q_int .n (.t rfl) (.t rfl) rfl rfl <|
        Lex.nil) ?_
    refine run_cond (.t rfl) rfl (fun h4 => ?_) (fun h4 => ?_)
    · try simp only [Bool.and_eq_true, Bool.or_eq_true, Bool.not_eq_true', Bool.and_eq_false_iff, Bool.or_eq_false_iff, Bool.not_eq_false', decide_eq_true_eq, decide_eq_false_iff_not, beq_iff_eq, bne_iff_ne, beq_eq_false_iff_ne, bne_eq_false_iff_eq, Bool.true_and, ne_eq, Decidable.not_not, Int.not_lt, Int.not_le, Nat.not_lt, Nat.not_le, strB_nil, strB_nil', strB_nnil, strB_nnil'] at h4
      refine run_skip ?_
      refine run_seq ?_
      refine run_block ?_
      refine run_seq ?_
      refine run_region (q_move .n (.t rfl) rfl <|
          q_move .n (.t rfl) rfl <|
          q_idx_rm .n (.t rfl) (.t rfl) sl_40 (fun _ => by first | omega | assumption | (simp only [List.length_append, List.length_cons, List.length_nil, List.length_replicate, put_len] at * <;> omega)) rfl <|
          q_fld_ro .n (.t rfl) fo_65_0 rfl <|
          q_ld1_ro .n (.t rfl) rfl ic_9 rfl <|
          q_move .n (.t rfl) rfl <|
          q_strcmp .n (.t rfl) (.t rfl) rfl rfl <|
          Lex.nil) ?_
      refine run_cond (.t rfl) rfl (fun h5 => ?_) (fun h5 => ?_)
      · try simp only [Bool.and_eq_true, Bool.or_eq_true, Bool.not_eq_true', Bool.and_eq_false_iff, Bool.or_eq_false_iff, Bool.not_eq_false', decide_eq_true_eq, decide_eq_false_iff_not, beq_iff_eq, bne_iff_ne, beq_eq_false_iff_ne, bne_eq_false_iff_eq, Bool.true_and, ne_eq, Decidable.not_not, Int.not_lt, Int.not_le, Nat.not_lt, Nat.not_le, strB_nil, strB_nil', strB_nnil, strB_nnil'] at h5
        refine run_seq ?_
        refine run_region (q_move .n (.t rfl) rfl <|
            q_assign .n (.t rfl) rfl <|
            Lex.nil) ?_
        exact run_ret [] (.cons (.t rfl rfl) .nil) rfl trivial rfl
      · try simp only [Bool.and_eq_true, Bool.or_eq_true, Bool.not_eq_true', Bool.and_eq_false_iff, Bool.or_eq_false_iff, Bool.not_eq_false', decide_eq_true_eq, decide_eq_false_iff_not, beq_iff_eq, bne_iff_ne, beq_eq_false_iff_ne, bne_eq_false_iff_eq, Bool.true_and, ne_eq, Decidable.not_not, Int.not_lt, Int.not_le, Nat.not_lt, Nat.not_le, strB_nil, strB_nil', strB_nnil, strB_nnil'] at h5
        refine run_skip ?_
        refine run_endB ?_
        refine run_region (q_move .n (.t rfl) rfl <|
            q_add .n (.t rfl) (.c rfl) (fun _ => by first | omega | assumption | (simp only [List.length_append, List.length_cons, List.length_nil, List.length_replicate, put_len] at * <;> omega)) rfl <|
            q_assign .n (.t rfl) rfl <|
            Lex.nil) ?_
        exact run_again (x1 + 1) ⟨by first | omega | assumption | (simp only [List.length_append, List.length_cons, List.length_nil, List.length_replicate, put_len] at * <;> omega), by first | omega | assumption | (simp only [List.length_append, List.length_cons, List.length_nil, List.length_replicate, put_len] at * <;> omega)⟩ (by first | omega | assumption | (simp only [List.length_append, List.length_cons, List.length_nil, List.length_replicate, put_len] at * <;> omega)) (sub_of [] ⟨rfl, rfl, rfl, trivial⟩ trivial rfl)
    · try simp only [Bool.and_eq_true, Bool.or_eq_true, Bool.not_eq_true', Bool.and_eq_false_iff, Bool.or_eq_false_iff, Bool.not_eq_false', decide_eq_true_eq, decide_eq_false_iff_not, beq_iff_eq, bne_iff_ne, beq_eq_false_iff_ne, bne_eq_false_iff_eq, Bool.true_and, ne_eq, Decidable.not_not, Int.not_lt, Int.not_le, Nat.not_lt, Nat.not_le, strB_nil, strB_nil', strB_nnil, strB_nnil'] at h4
      refine run_exit rfl ?_
      exact run_cont hk2 x1 ⟨by first | omega | assumption | (simp only [List.length_append, List.length_cons, List.length_nil, List.length_replicate, put_len] at * <;> omega), by first | omega | assumption | (simp only [List.length_append, List.length_cons, List.length_nil, List.length_replicate, put_len] at * <;> omega), by first | omega | assumption | (simp only [List.length_append, List.length_cons, List.length_nil, List.length_replicate, put_len] at * <;> omega)⟩ (sub_of [] trivial trivial rfl)

/-! ### spec_l27Get -/
theorem c_spec_l27Get (list : List gSetting) (name : List UInt8) : Con Try.prog 67 [.sl 2 (list.map gSetting.v), .str name] [] (.st [.str (m_spec_l27Get list name).Name, .int .i64 (m_spec_l27Get list name).Value]) ([]) := by
  refine con_intro (out := fun r : gSetting => ((.st [.str r.Name, .int .i64 r.Value] : V), ([] : List (Nat × Option O)))) (r := (m_spec_l27Get list name)) Try.func67 rfl Try.ntmps67 rfl ?_
  refine run_fact (t := 0) rfl fun hl => ?_
  have l1 := hl; clear hl; simp only [List.length_map] at l1
  refine run_seq ?_
  refine run_region (q_alloc (l := 200) .n rfl zv_65 rfl rfl <|
      Lex.nil) ?_
  refine run_seq ?_
  refine run_region (q_move .n (.t rfl) rfl <|
      q_move .n (.t rfl) rfl <|
      q_call0 (full := false) .n .f en_86 (.cons (.t rfl) (.cons (.t rfl) .nil)) (.cons (.b (.a (.same rfl))) (.cons (.b (.a (.same rfl))) .nil)) (fun hg => c_spec_l27At list name) rfl (fun h => Bool.noConfusion h) rfl <|
      q_assign .n (.t rfl) rfl <|
      Lex.nil) ?_
  refine run_seq ?_
  refine run_seq ?_
  refine run_region (q_move .n (.t rfl) rfl <|
      q_int .n (.t rfl) (.c rfl) rfl rfl <|
      Lex.nil) ?_
  refine run_cond (.t rfl) rfl (fun h2 => ?_) (fun h2 => ?_)
  · try simp only [Bool.and_eq_true, Bool.or_eq_true, Bool.not_eq_true', Bool.and_eq_false_iff, Bool.or_eq_false_iff, Bool.not_eq_false', decide_eq_true_eq, decide_eq_false_iff_not, beq_iff_eq, bne_iff_ne, beq_eq_false_iff_ne, bne_eq_false_iff_eq, Bool.true_and, ne_eq, Decidable.not_not, Int.not_lt, Int.not_le, Nat.not_lt, Nat.not_le, strB_nil, strB_nil', strB_nnil, strB_nnil'] at h2
    refine run_seq ?_
    refine run_region (q_build (us := [.str ([] : List UInt8), .int .i64 0]) .n .nil zv_65 pl_65 rfl rfl rfl <|
        q_st_boxm [.str ([] : List UInt8), .int .i64 0] .n rfl (.t rfl) (.t rfl) rfl ts_65 rfl rfl <|
        Lex.nil) ?_
    exact run_ret [] (.cons (.cN rfl rfl ag_65 rfl rfl) .nil) (by first | rfl | (simp only [put_len]; rfl)) trivial rfl
  · try simp only [Bool.and_eq_true, Bool.or_eq_true, Bool.not_eq_true', Bool.and_eq_false_iff, Bool.or_eq_false_iff, Bool.not_eq_false', decide_eq_true_eq, decide_eq_false_iff_not, beq_iff_eq, bne_iff_ne, beq_eq_false_iff_ne, bne_eq_false_iff_eq, Bool.true_and, ne_eq, Decidable.not_not, Int.not_lt, Int.not_le, Nat.not_lt, Nat.not_le, strB_nil, strB_nil', strB_nnil, strB_nnil'] at h2
    refine run_skip ?_
    refine run_seq ?_
    refine run_region (q_move .n (.t rfl) rfl <|
        q_move .n (.t rfl) rfl <|
        q_idx_rm .n (.t rfl) (.t rfl) sl_40 (fun _ => by first | omega | assumption | (simp only [List.length_append, List.length_cons, List.length_nil, List.length_replicate, put_len] at * <;> omega) | (exact at_rng (by omega))) rfl <|
        q_ldN_ro .n (.t rfl) ag_65 rfl rfl rfl <|
        q_st_boxm [.str (at' list (m_spec_l27At list name)).Name, .int .i64 (at' list (m_spec_l27At list name)).Value] .n rfl (.t rfl) (.t rfl) rfl ts_65 rfl rfl <|
        Lex.nil) ?_
    exact run_ret [] (.cons (.cN rfl rfl ag_65 rfl rfl) .nil) (by first | rfl | (simp only [put_len]; rfl)) trivial rfl

/-! ### spec_l27Conflicts -/
theorem c_spec_l27Conflicts (base : List gSetting) (a : List gSetting) (b : List gSetting) (hp1 : base.length ≤ 24) (hp2 : a.length ≤ 24) (hp3 : b.length ≤ 24) : Con Try.prog 44 [.sl 2 (base.map gSetting.v), .sl 2 (a.map gSetting.v), .sl 2 (b.map gSetting.v)] [] (.os 100 (m_spec_l27Conflicts base a b).length) ([(100, some (.row 9 1 ((m_spec_l27Conflicts base a b).map V.str)))]) := by
  refine con_intro (out := fun r : (List (List UInt8)) => ((.os 100 r.length : V), ([(100, some (.row 9 1 (r.map V.str)))] : List (Nat × Option O)))) (r := (m_spec_l27Conflicts base a b)) Try.func44 rfl Try.ntmps44 rfl ?_
  refine run_fact (t := 0) rfl fun hl => ?_
  have l1 := hl; clear hl; simp only [List.length_map] at l1
  refine run_fact (t := 1) rfl fun hl => ?_
  have l2 := hl; clear hl; simp only [List.length_map] at l2
  refine run_fact (t := 2) rfl fun hl => ?_
  have l3 := hl; clear hl; simp only [List.length_map] at l3
  refine run_seq ?_
  refine run_region (q_assign .n (.c rfl) rfl <|
      Lex.nil) ?_
  refine run_seq ?_
  refine run_region (q_move .n (.t rfl) rfl <|
      q_move .n (.t rfl) rfl <|
      q_move .n (.t rfl) rfl <|
      q_callM (full := false) [] [(100, 200)] .n rfl .f en_66 (.cons (.t rfl) (.cons (.t rfl) (.cons (.t rfl) .nil))) (.cons (.b (.a (.same rfl))) (.cons (.b (.a (.same rfl))) (.cons (.b (.a (.same rfl))) .nil))) (c_spec_l27Names base a b (by first | omega | assumption | (simp only [List.length_append, List.length_cons, List.length_nil, List.length_replicate, put_len] at * <;> omega) | ((have hq := names_le hp1 hp2 hp3; first | omega | (simp only [List.length_append, List.length_cons, List.length_nil]; omega)))) (by first | omega | assumption | (simp only [List.length_append, List.length_cons, List.length_nil, List.length_replicate, put_len] at * <;> omega) | ((have hq := names_le hp1 hp2 hp3; first | omega | (simp only [List.length_append, List.length_cons, List.length_nil]; omega)))) (by first | omega | assumption | (simp only [List.length_append, List.length_cons, List.length_nil, List.length_replicate, put_len] at * <;> omega) | ((have hq := names_le hp1 hp2 hp3; first | omega | (simp only [List.length_append, List.length_cons, List.length_nil]; omega))))) trivial rfl rfl (fun h => Bool.noConfusion h) (fun h => Bool.noConfusion h) rfl <|
      q_assign .n (.t rfl) rfl <|
      Lex.nil) ?_
  refine run_seq ?_
  refine run_region (q_bslicem ([] : List (List UInt8)) (f := V.str) (l := 201) .n rfl rfl .nil rfl si_30 zv_9 rfl rfl rfl <|
      q_assign .n (.t rfl) rfl <|
      Lex.nil) ?_
  refine run_seq ?_
  refine run_seq ?_
  refine run_region (q_assign .n (.c rfl) rfl <|
      Lex.nil) ?_
  refine run_block ?_
  refine run_LOOP (m_spec_l27Conflicts_b1 base a b) _ _ _ rfl (fun (x1 : (List (List UInt8)) × Int) => 0 ≤ x1.2 ∧ x1.2 ≤ ((m_spec_l27Names base a b).length : Int) ∧ (x1.1.length : Int) + 0 ≤ x1.2 + (([] : List (List UInt8)).length : Int) ∧ (x1.1.length : Int) ≤ x1.2) (fun x1 => 0 ≤ x1.2 ∧ x1.2 ≤ ((m_spec_l27Names base a b).length : Int) ∧ (x1.1.length : Int) + 0 ≤ x1.2 + (([] : List (List UInt8)).length : Int) ∧ (x1.1.length : Int) ≤ x1.2 ∧ ((m_spec_l27Names base a b).length : Int) ≤ x1.2) (fun x1 => (((m_spec_l27Names base a b).length : Int) - x1.2 : Int).toNat) (fun x1 => ⟨[(0, some (true, .sl 2 (base.map gSetting.v))), (1, some (true, .sl 2 (a.map gSetting.v))), (2, some (true, .sl 2 (b.map gSetting.v))), (7, some (true, .os 200 (m_spec_l27Names base a b).length)), (8, some (true, .os 201 x1.1.length)), (9, some (true, .int .i64 x1.2))], [(200, some (.row 9 1 ((m_spec_l27Names base a b).map V.str))), (201, some (.row 9 1 (x1.1.map V.str)))]⟩) (fun x1 => ⟨[(8, some (true, .os 201 x1.1.length))], [(201, some (.row 9 1 (x1.1.map V.str)))]⟩) ⟨by first | omega | assumption | (simp only [List.length_append, List.length_cons, List.length_nil, List.length_replicate, put_len] at * <;> omega) | ((have hq := names_le hp1 hp2 hp3; first | omega | (simp only [List.length_append, List.length_cons, List.length_nil]; omega))), by first | omega | assumption | (simp only [List.length_append, List.length_cons, List.length_nil, List.length_replicate, put_len] at * <;> omega) | ((have hq := names_le hp1 hp2 hp3; first | omega | (simp only [List.length_append, List.length_cons, List.length_nil]; omega))), by first | omega | assumption | (simp only [List.length_append, List.length_cons, List.length_nil, List.length_replicate, put_len] at * <;> omega) | ((have hq := names_le hp1 hp2 hp3; first | omega | (simp only [List.length_append, List.length_cons, List.length_nil]; omega))), by first | omega | assumption | (simp only [List.length_append, List.length_cons, List.length_nil, List.length_replicate, put_len] at * <;> omega) | ((have hq := names_le hp1 hp2 hp3; first | omega | (simp only [List.length_append, List.length_cons, List.length_nil]; omega)))⟩ (by first | omega | assumption | (simp only [List.length_append, List.length_cons, List.length_nil, List.length_replicate, put_len] at * <;> omega) | ((have hq := names_le hp1 hp2 hp3; first | omega | (simp only [List.length_append, List.length_cons, List.length_nil]; omega)))) (sub_of [] ⟨rfl, rfl, rfl, rfl, rfl, rfl, trivial⟩ ⟨rfl, rfl, trivial⟩ rfl) ?_ ?_
  · intro x1 i8
    obtain ⟨e9, e10, e11, e12, e13⟩ := i8
    try dsimp only at *
    refine run_seq ?_
    refine run_region (q_move .n (.t rfl) rfl <|
        q_assign .n (.t rfl) rfl <|
        Lex.nil) ?_
    exact run_ret [(100, 201)] (.cons (.t rfl rfl) .nil) (by first | rfl | (simp only [put_len]; rfl)) ⟨rfl, trivial⟩ rfl
  · intro rec1 k1 hk4 x1 i5
    obtain ⟨e14, e15, e16, e17⟩ := i5
    try dsimp only at *
    refine run_seq ?_
    refine run_seq ?_
    refine run_region (q_move .n (.t rfl) rfl <|
        q_move .n (.t rfl) rfl <|
        q_len .n (.t rfl) rfl rfl ss_30 rfl <|
        q_int .n (.t rfl) (.t rfl) rfl rfl <|
        Lex.nil) ?_
    refine run_cond (.t rfl) rfl (fun h6 => ?_) (fun h6 => ?_)
    · try simp only [Bool.and_eq_true, Bool.or_eq_true, Bool.not_eq_true', Bool.and_eq_false_iff, Bool.or_eq_false_iff, Bool.not_eq_false', decide_eq_true_eq, decide_eq_false_iff_not, beq_iff_eq, bne_iff_ne, beq_eq_false_iff_ne, bne_eq_false_iff_eq, Bool.true_and, ne_eq, Decidable.not_not, Int.not_lt, Int.not_le, Nat.not_lt, Nat.not_le, strB_nil, strB_nil', strB_nnil, strB_nnil'] at h6
      refine run_skip ?_
      refine run_seq ?_
      refine run_block ?_
      refine run_seq ?_
      refine run_region (q_move .n (.t rfl) rfl <|
          q_move .n (.t rfl) rfl <|
          q_move .n (.t rfl) rfl <|
          q_idx_ow .n (.t rfl) (.t rfl) sl_30 (fun _ => by first | omega | assumption | (simp only [List.length_append, List.length_cons, List.length_nil, List.length_replicate, put_len] at * <;> omega) | ((have hq := names_le hp1 hp2 hp3; first | omega | (simp only [List.length_append, List.length_cons, List.length_nil]; omega)))) rfl <|
          q_ld1_row .n (.t rfl) rfl (fun _ => by first | omega | assumption | (simp only [List.length_append, List.length_cons, List.length_nil, List.length_replicate, put_len] at * <;> omega) | ((have hq := names_le hp1 hp2 hp3; first | omega | (simp only [List.length_append, List.length_cons, List.length_nil]; omega)))) rfl rfl rfl ic_9 rfl <|
          q_call0 (full := false) .n .f en_67 (.cons (.t rfl) (.cons (.t rfl) .nil)) (.cons (.b (.a (.same rfl))) (.cons (.b (.a (.same rfl))) .nil)) (fun hg => c_spec_l27Get base (at' (m_spec_l27Names base a b) x1.2)) rfl (fun h => Bool.noConfusion h) rfl <|
          q_alloc (l := 202) .n rfl zv_65 rfl rfl <|
          q_st_boxm [.str (m_spec_l27Get base (at' (m_spec_l27Names base a b) x1.2)).Name, .int .i64 (m_spec_l27Get base (at' (m_spec_l27Names base a b) x1.2)).Value] .n rfl (.t rfl) (.t rfl) rfl ts_65 rfl rfl <|
          Lex.nil) ?_
      refine run_seq ?_
      refine run_region (q_move .n (.t rfl) rfl <|
          q_move .n (.t rfl) rfl <|
          q_move .n (.t rfl) rfl <|
          q_idx_ow .n (.t rfl) (.t rfl) sl_30 (fun _ => by first | omega | assumption | (simp only [List.length_append, List.length_cons, List.length_nil, List.length_replicate, put_len] at * <;> omega) | ((have hq := names_le hp1 hp2 hp3; first | omega | (simp only [List.length_append, List.length_cons, List.length_nil]; omega)))) rfl <|
          q_ld1_row .n (.t rfl) rfl (fun _ => by first | omega | assumption | (simp only [List.length_append, List.length_cons, List.length_nil, List.length_replicate, put_len] at * <;> omega) | ((have hq := names_le hp1 hp2 hp3; first | omega | (simp only [List.length_append, List.length_cons, List.length_nil]; omega)))) rfl rfl rfl ic_9 rfl <|
          q_call0 (full := false) .n .f en_67 (.cons (.t rfl) (.cons (.t rfl) .nil)) (.cons (.b (.a (.same rfl))) (.cons (.b (.a (.same rfl))) .nil)) (fun hg => c_spec_l27Get a (at' (m_spec_l27Names base a b) x1.2)) rfl (fun h => Bool.noConfusion h) rfl <|
          q_alloc (l := 203) .n rfl zv_65 rfl rfl <|
          q_st_boxm [.str (m_spec_l27Get a (at' (m_spec_l27Names base a b) x1.2)).Name, .int .i64 (m_spec_l27Get a (at' (m_spec_l27Names base a b) x1.2)).Value] .n rfl (.t rfl) (.t rfl) rfl ts_65 rfl rfl <|
          Lex.nil) ?_
      refine run_seq ?_
      refine run_region (q_move .n (.t rfl) rfl <|
          q_move .n (.t rfl) rfl <|
          q_move .n (.t rfl) rfl <|
          q_idx_ow .n (.t rfl) (.t rfl) sl_30 (fun _ => by first | omega | assumption | (simp only [List.length_append, List.length_cons, List.length_nil, List.length_replicate, put_len] at * <;> omega) | ((have hq := names_le hp1 hp2 hp3; first | omega | (simp only [List.length_append, List.length_cons, List.length_nil]; omega)))) rfl <|
          q_ld1_row .n (.t rfl) rfl (fun _ => by first | omega | assumption | (simp only [List.length_append, List.length_cons, List.length_nil, List.length_replicate, put_len] at * <;> omega) | ((have hq := names_le hp1 hp2 hp3; first | omega | (simp only [List.length_append, List.length_cons, List.length_nil]; omega)))) rfl rfl rfl ic_9 rfl <|
          q_call0 (full := false) .n .f en_67 (.cons (.t rfl) (.cons (.t rfl) .nil)) (.cons (.b (.a (.same rfl))) (.cons (.b (.a (.same rfl))) .nil)) (fun hg => c_spec_l27Get b (at' (m_spec_l27Names base a b) x1.2)) rfl (fun h => Bool.noConfusion h) rfl <|
          q_alloc (l := 204) .n rfl zv_65 rfl rfl <|
          q_st_boxm [.str (m_spec_l27Get b (at' (m_spec_l27Names base a b) x1.2)).Name, .int .i64 (m_spec_l27Get b (at' (m_spec_l27Names base a b) x1.2)).Value] .n rfl (.t rfl) (.t rfl) rfl ts_65 rfl rfl <|
          Lex.nil) ?_
      refine run_seq ?_
      refine run_region (q_ldN_ow .n (.t rfl) rfl (.inr rfl) ag_65 (fun _ => rfl) rfl rfl <|
          q_ldN_ow .n (.t rfl) rfl (.inr rfl) ag_65 (fun _ => rfl) rfl rfl <|
          q_stne (!((strB .eql (m_spec_l27Get base (at' (m_spec_l27Names base a b) x1.2)).Name (m_spec_l27Get a (at' (m_spec_l27Names base a b) x1.2)).Name) && (((m_spec_l27Get base (at' (m_spec_l27Names base a b) x1.2)).Value == (m_spec_l27Get a (at' (m_spec_l27Names base a b) x1.2)).Value) && true))) .n (.t rfl) (.t rfl) (by kernel_rfl) rfl rfl <|
          q_move .n (.t rfl) rfl <|
          q_ldN_ow (.t rfl rfl) (.t rfl) rfl (.inr rfl) ag_65 (fun _ => rfl) rfl rfl <|
          q_ldN_ow (.t rfl rfl) (.t rfl) rfl (.inr rfl) ag_65 (fun _ => rfl) rfl rfl <|
          q_stne (!((strB .eql (m_spec_l27Get base (at' (m_spec_l27Names base a b) x1.2)).Name (m_spec_l27Get b (at' (m_spec_l27Names base a b) x1.2)).Name) && (((m_spec_l27Get base (at' (m_spec_l27Names base a b) x1.2)).Value == (m_spec_l27Get b (at' (m_spec_l27Names base a b) x1.2)).Value) && true))) (.t rfl rfl) (.u rfl id) (.u rfl id) (by kernel_rfl) rfl rfl <|
          q_and .n (.t rfl) (.u rfl id) rfl <|
          q_move .n (.t rfl) rfl <|
          q_ldN_ow (.t rfl rfl) (.t rfl) rfl (.inr rfl) ag_65 (fun _ => rfl) rfl rfl <|
          q_ldN_ow (.t rfl rfl) (.t rfl) rfl (.inr rfl) ag_65 (fun _ => rfl) rfl rfl <|
          q_stne (!((strB .eql (m_spec_l27Get a (at' (m_spec_l27Names base a b) x1.2)).Name (m_spec_l27Get b (at' (m_spec_l27Names base a b) x1.2)).Name) && (((m_spec_l27Get a (at' (m_spec_l27Names base a b) x1.2)).Value == (m_spec_l27Get b (at' (m_spec_l27Names base a b) x1.2)).Value) && true))) (.t rfl rfl) (.u rfl id) (.u rfl id) (by kernel_rfl) rfl rfl <|
          q_and .n (.t rfl) (.u rfl id) rfl <|
          Lex.nil) ?_
      refine run_cond (.t rfl) rfl (fun h7 => ?_) (fun h7 => ?_)
      · try simp only [Bool.and_eq_true, Bool.or_eq_true, Bool.not_eq_true', Bool.and_eq_false_iff, Bool.or_eq_false_iff, Bool.not_eq_false', decide_eq_true_eq, decide_eq_false_iff_not, beq_iff_eq, bne_iff_ne, beq_eq_false_iff_ne, bne_eq_false_iff_eq, Bool.true_and, ne_eq, Decidable.not_not, Int.not_lt, Int.not_le, Nat.not_lt, Nat.not_le, strB_nil, strB_nil', strB_nnil, strB_nnil'] at h7
        refine run_region (q_move .n (.t rfl) rfl <|
            q_move .n (.t rfl) rfl <|
            q_move .n (.t rfl) rfl <|
            q_idx_ow .n (.t rfl) (.t rfl) sl_30 (fun _ => by first | omega | assumption | (simp only [List.length_append, List.length_cons, List.length_nil, List.length_replicate, put_len] at * <;> omega) | ((have hq := names_le hp1 hp2 hp3; first | omega | (simp only [List.length_append, List.length_cons, List.length_nil]; omega)))) rfl <|
            q_ld1_row .n (.t rfl) rfl (fun _ => by first | omega | assumption | (simp only [List.length_append, List.length_cons, List.length_nil, List.length_replicate, put_len] at * <;> omega) | ((have hq := names_le hp1 hp2 hp3; first | omega | (simp only [List.length_append, List.length_cons, List.length_nil]; omega)))) rfl rfl rfl ic_9 rfl <|
            q_bslicem ([at' (m_spec_l27Names base a b) x1.2] : List (List UInt8)) (f := V.str) (l := 205) .n rfl rfl (.cons (.t rfl) .nil) rfl si_30 zv_9 rfl rfl rfl <|
            q_appm (xs := x1.1) (ys := ([at' (m_spec_l27Names base a b) x1.2] : List (List UInt8))) (f := V.str) (l := 206) .n rfl (.ow (.t rfl) rfl (take_all (by simp only [len_map, put_len] <;> rfl)) (by simp only [len_map, put_len] <;> rfl)) (.ow (.t rfl) rfl (take_all (by simp only [len_map, put_len] <;> rfl)) (by simp only [len_map, put_len] <;> rfl)) si_30 zv_9 rfl (by first | omega | assumption | (simp only [List.length_append, List.length_cons, List.length_nil, List.length_replicate, put_len] at * <;> omega) | ((have hq := names_le hp1 hp2 hp3; first | omega | (simp only [List.length_append, List.length_cons, List.length_nil]; omega)))) rfl rfl <|
            q_assign .n (.t rfl) rfl <|
            Lex.nil) ?_
        refine run_endB ?_
        refine run_region (q_move .n (.t rfl) rfl <|
            q_add .n (.t rfl) (.c rfl) (fun _ => by first | omega | assumption | (simp only [List.length_append, List.length_cons, List.length_nil, List.length_replicate, put_len] at * <;> omega) | ((have hq := names_le hp1 hp2 hp3; first | omega | (simp only [List.length_append, List.length_cons, List.length_nil]; omega)))) rfl <|
            q_assign .n (.t rfl) rfl <|
            Lex.nil) ?_
        exact run_again (x1.1 ++ ([at' (m_spec_l27Names base a b) x1.2] : List (List UInt8)), x1.2 + 1) ⟨by first | omega | assumption | (simp only [List.length_append, List.length_cons, List.length_nil, List.length_replicate, put_len] at * <;> omega) | ((have hq := names_le hp1 hp2 hp3; first | omega | (simp only [List.length_append, List.length_cons, List.length_nil]; omega))), by first | omega | assumption | (simp only [List.length_append, List.length_cons, List.length_nil, List.length_replicate, put_len] at * <;> omega) | ((have hq := names_le hp1 hp2 hp3; first | omega | (simp only [List.length_append, List.length_cons, List.length_nil]; omega))), by first | omega | assumption | (simp only [List.length_append, List.length_cons, List.length_nil, List.length_replicate, put_len] at * <;> omega) | ((have hq := names_le hp1 hp2 hp3; first | omega | (simp only [List.length_append, List.length_cons, List.length_nil]; omega))), by first | omega | assumption | (simp only [List.length_append, List.length_cons, List.length_nil, List.length_replicate, put_len] at * <;> omega) | ((have hq := names_le hp1 hp2 hp3; first | omega | (simp only [List.length_append, List.length_cons, List.length_nil]; omega)))⟩ (by first | omega | assumption | (simp only [List.length_append, List.length_cons, List.length_nil, List.length_replicate, put_len] at * <;> omega) | ((have hq := names_le hp1 hp2 hp3; first | omega | (simp only [List.length_append, List.length_cons, List.length_nil]; omega)))) (sub_of [(201, 206)] ⟨rfl, rfl, rfl, rfl, rfl, rfl, trivial⟩ ⟨rfl, rfl, trivial⟩ rfl)
      · try simp only [Bool.and_eq_true, Bool.or_eq_true, Bool.not_eq_true', Bool.and_eq_false_iff, Bool.or_eq_false_iff, Bool.not_eq_false', decide_eq_true_eq, decide_eq_false_iff_not, beq_iff_eq, bne_iff_ne, beq_eq_false_iff_ne, bne_eq_false_iff_eq, Bool.true_and, ne_eq, Decidable.not_not, Int.not_lt, Int.not_le, Nat.not_lt, Nat.not_le, strB_nil, strB_nil', strB_nnil, strB_nnil'] at h7
        refine run_skip ?_
        refine run_endB ?_
        refine run_region (q_move .n (.t rfl) rfl <|
            q_add .n (.t rfl) (.c rfl) (fun _ => by first | omega | assumption | (simp only [List.length_append, List.length_cons, List.length_nil, List.length_replicate, put_len] at * <;> omega) | ((have hq := names_le hp1 hp2 hp3; first | omega | (simp only [List.length_append, List.length_cons, List.length_nil]; omega)))) rfl <|
            q_assign .n (.t rfl) rfl <|
            Lex.nil) ?_
        exact run_again (x1.1, x1.2 + 1) ⟨by first | omega | assumption | (simp only [List.length_append, List.length_cons, List.length_nil, List.length_replicate, put_len] at * <;> omega) | ((have hq := names_le hp1 hp2 hp3; first | omega | (simp only [List.length_append, List.length_cons, List.length_nil]; omega))), by first | omega | assumption | (simp only [List.length_append, List.length_cons, List.length_nil, List.length_replicate, put_len] at * <;> omega) | ((have hq := names_le hp1 hp2 hp3; first | omega | (simp only [List.length_append, List.length_cons, List.length_nil]; omega))), by first | omega | assumption | (simp only [List.length_append, List.length_cons, List.length_nil, List.length_replicate, put_len] at * <;> omega) | ((have hq := names_le hp1 hp2 hp3; first | omega | (simp only [List.length_append, List.length_cons, List.length_nil]; omega))), by first | omega | assumption | (simp only [List.length_append, List.length_cons, List.length_nil, List.length_replicate, put_len] at * <;> omega) | ((have hq := names_le hp1 hp2 hp3; first | omega | (simp only [List.length_append, List.length_cons, List.length_nil]; omega)))⟩ (by first | omega | assumption | (simp only [List.length_append, List.length_cons, List.length_nil, List.length_replicate, put_len] at * <;> omega) | ((have hq := names_le hp1 hp2 hp3; first | omega | (simp only [List.length_append, List.length_cons, List.length_nil]; omega)))) (sub_of [] ⟨rfl, rfl, rfl, rfl, rfl, rfl, trivial⟩ ⟨rfl, rfl, trivial⟩ rfl)
    · try simp only [Bool.and_eq_true, Bool.or_eq_true, Bool.not_eq_true', Bool.and_eq_false_iff, Bool.or_eq_false_iff, Bool.not_eq_false', decide_eq_true_eq, decide_eq_false_iff_not, beq_iff_eq, bne_iff_ne, beq_eq_false_iff_ne, bne_eq_false_iff_eq, Bool.true_and, ne_eq, Decidable.not_not, Int.not_lt, Int.not_le, Nat.not_lt, Nat.not_le, strB_nil, strB_nil', strB_nnil, strB_nnil'] at h6
      refine run_exit rfl ?_
      exact run_cont hk4 (x1.1, x1.2) ⟨by first | omega | assumption | (simp only [List.length_append, List.length_cons, List.length_nil, List.length_replicate, put_len] at * <;> omega) | ((have hq := names_le hp1 hp2 hp3; first | omega | (simp only [List.length_append, List.length_cons, List.length_nil]; omega))), by first | omega | assumption | (simp only [List.length_append, List.length_cons, List.length_nil, List.length_replicate, put_len] at * <;> omega) | ((have hq := names_le hp1 hp2 hp3; first | omega | (simp only [List.length_append, List.length_cons, List.length_nil]; omega))), by first | omega | assumption | (simp only [List.length_append, List.length_cons, List.length_nil, List.length_replicate, put_len] at * <;> omega) | ((have hq := names_le hp1 hp2 hp3; first | omega | (simp only [List.length_append, List.length_cons, List.length_nil]; omega))), by first | omega | assumption | (simp only [List.length_append, List.length_cons, List.length_nil, List.length_replicate, put_len] at * <;> omega) | ((have hq := names_le hp1 hp2 hp3; first | omega | (simp only [List.length_append, List.length_cons, List.length_nil]; omega))), by first | omega | assumption | (simp only [List.length_append, List.length_cons, List.length_nil, List.length_replicate, put_len] at * <;> omega) | ((have hq := names_le hp1 hp2 hp3; first | omega | (simp only [List.length_append, List.length_cons, List.length_nil]; omega)))⟩ (sub_of [] ⟨rfl, trivial⟩ ⟨rfl, trivial⟩ rfl)

/-! ### spec_l27Merge -/
theorem c_spec_l27Merge (base : List gSetting) (a : List gSetting) (b : List gSetting) (hp1 : base.length ≤ 24) (hp2 : a.length ≤ 24) (hp3 : b.length ≤ 24) : Con Try.prog 49 [.sl 2 (base.map gSetting.v), .sl 2 (a.map gSetting.v), .sl 2 (b.map gSetting.v)] [] (.tup [.os 100 (m_spec_l27Merge base a b).1.length, .int .i64 (m_spec_l27Merge base a b).2]) ([(100, some (.row 65 2 ((m_spec_l27Merge base a b).1.map gSetting.v)))]) := by
  refine con_intro (out := fun r : (List gSetting) × Int => ((.tup [.os 100 r.1.length, .int .i64 r.2] : V), ([(100, some (.row 65 2 (r.1.map gSetting.v)))] : List (Nat × Option O)))) (r := (m_spec_l27Merge base a b)) Try.func49 rfl Try.ntmps49 rfl ?_
  refine run_fact (t := 0) rfl fun hl => ?_
  have l1 := hl; clear hl; simp only [List.length_map] at l1
  refine run_fact (t := 1) rfl fun hl => ?_
  have l2 := hl; clear hl; simp only [List.length_map] at l2
  refine run_fact (t := 2) rfl fun hl => ?_
  have l3 := hl; clear hl; simp only [List.length_map] at l3
  refine run_seq ?_
  refine run_region (q_assign .n (.c rfl) rfl <|
      q_assign .n (.c rfl) rfl <|
      Lex.nil) ?_
  refine run_seq ?_
  refine run_seq ?_
  refine run_region (q_move .n (.t rfl) rfl <|
      q_move .n (.t rfl) rfl <|
      q_move .n (.t rfl) rfl <|
      q_callM (full := false) [] [(100, 200)] .n rfl .f en_44 (.cons (.t rfl) (.cons (.t rfl) (.cons (.t rfl) .nil))) (.cons (.b (.a (.same rfl))) (.cons (.b (.a (.same rfl))) (.cons (.b (.a (.same rfl))) .nil))) (c_spec_l27Conflicts base a b (by first | omega | assumption | (simp only [List.length_append, List.length_cons, List.length_nil, List.length_replicate, put_len] at * <;> omega) | ((have hq := names_le hp1 hp2 hp3; first | omega | (simp only [List.length_append, List.length_cons, List.length_nil]; omega)))) (by first | omega | assumption | (simp only [List.length_append, List.length_cons, List.length_nil, List.length_replicate, put_len] at * <;> omega) | ((have hq := names_le hp1 hp2 hp3; first | omega | (simp only [List.length_append, List.length_cons, List.length_nil]; omega)))) (by first | omega | assumption | (simp only [List.length_append, List.length_cons, List.length_nil, List.length_replicate, put_len] at * <;> omega) | ((have hq := names_le hp1 hp2 hp3; first | omega | (simp only [List.length_append, List.length_cons, List.length_nil]; omega))))) trivial rfl rfl (fun h => Bool.noConfusion h) (fun h => Bool.noConfusion h) rfl <|
      q_len .n (.t rfl) rfl rfl ss_30 rfl <|
      q_int .n (.t rfl) (.c rfl) rfl rfl <|
      Lex.nil) ?_
  refine run_cond (.t rfl) rfl (fun h4 => ?_) (fun h4 => ?_)
  · try simp only [Bool.and_eq_true, Bool.or_eq_true, Bool.not_eq_true', Bool.and_eq_false_iff, Bool.or_eq_false_iff, Bool.not_eq_false', decide_eq_true_eq, decide_eq_false_iff_not, beq_iff_eq, bne_iff_ne, beq_eq_false_iff_ne, bne_eq_false_iff_eq, Bool.true_and, ne_eq, Decidable.not_not, Int.not_lt, Int.not_le, Nat.not_lt, Nat.not_le, strB_nil, strB_nil', strB_nnil, strB_nnil'] at h4
    refine run_seq ?_
    refine run_region (q_assign .n (.c rfl) rfl <|
        q_assign .n (.c rfl) rfl <|
        Lex.nil) ?_
    refine run_sub (sub_adopt (t := 6) (l := 201) (el := 65) (sz := 2) rfl rfl) ?_
    exact run_ret [(100, 201)] (.cons (.t rfl rfl) (.cons (.t rfl rfl) .nil)) (by first | rfl | (simp only [put_len]; rfl)) ⟨rfl, trivial⟩ rfl
  · try simp only [Bool.and_eq_true, Bool.or_eq_true, Bool.not_eq_true', Bool.and_eq_false_iff, Bool.or_eq_false_iff, Bool.not_eq_false', decide_eq_true_eq, decide_eq_false_iff_not, beq_iff_eq, bne_iff_ne, beq_eq_false_iff_ne, bne_eq_false_iff_eq, Bool.true_and, ne_eq, Decidable.not_not, Int.not_lt, Int.not_le, Nat.not_lt, Nat.not_le, strB_nil, strB_nil', strB_nnil, strB_nnil'] at h4
    refine run_skip ?_
    refine run_seq ?_
    refine run_region (q_move .n (.t rfl) rfl <|
        q_move .n (.t rfl) rfl <|
        q_move .n (.t rfl) rfl <|
        q_callM (full := false) [] [(100, 202)] .n rfl .f en_66 (.cons (.t rfl) (.cons (.t rfl) (.cons (.t rfl) .nil))) (.cons (.b (.a (.same rfl))) (.cons (.b (.a (.same rfl))) (.cons (.b (.a (.same rfl))) .nil))) (c_spec_l27Names base a b (by first | omega | assumption | (simp only [List.length_append, List.length_cons, List.length_nil, List.length_replicate, put_len] at * <;> omega) | ((have hq := names_le hp1 hp2 hp3; first | omega | (simp only [List.length_append, List.length_cons, List.length_nil]; omega)))) (by first | omega | assumption | (simp only [List.length_append, List.length_cons, List.length_nil, List.length_replicate, put_len] at * <;> omega) | ((have hq := names_le hp1 hp2 hp3; first | omega | (simp only [List.length_append, List.length_cons, List.length_nil]; omega)))) (by first | omega | assumption | (simp only [List.length_append, List.length_cons, List.length_nil, List.length_replicate, put_len] at * <;> omega) | ((have hq := names_le hp1 hp2 hp3; first | omega | (simp only [List.length_append, List.length_cons, List.length_nil]; omega))))) trivial rfl rfl (fun h => Bool.noConfusion h) (fun h => Bool.noConfusion h) rfl <|
        q_assign .n (.t rfl) rfl <|
        Lex.nil) ?_
    refine run_seq ?_
    refine run_region (q_bslicem ([] : List gSetting) (f := gSetting.v) (l := 203) .n rfl rfl .nil rfl si_40 zv_65 rfl rfl rfl <|
        q_assign .n (.t rfl) rfl <|
        Lex.nil) ?_
    refine run_seq ?_
    refine run_seq ?_
    refine run_region (q_assign .n (.c rfl) rfl <|
        Lex.nil) ?_
    refine run_block ?_
    refine run_LOOP (m_spec_l27Merge_b1 base a b) _ _ _ rfl (fun (x1 : (List gSetting) × Int) => 0 ≤ x1.2 ∧ x1.2 ≤ ((m_spec_l27Names base a b).length : Int) ∧ (x1.1.length : Int) + 0 ≤ x1.2 + (([] : List gSetting).length : Int) ∧ (x1.1.length : Int) ≤ x1.2) (fun x1 => 0 ≤ x1.2 ∧ x1.2 ≤ ((m_spec_l27Names base a b).length : Int) ∧ (x1.1.length : Int) + 0 ≤ x1.2 + (([] : List gSetting).length : Int) ∧ (x1.1.length : Int) ≤ x1.2 ∧ ((m_spec_l27Names base a b).length : Int) ≤ x1.2) (fun x1 => (((m_spec_l27Names base a b).length : Int) - x1.2 : Int).toNat) (fun x1 => ⟨[(0, some (true, .sl 2 (base.map gSetting.v))), (1, some (true, .sl 2 (a.map gSetting.v))), (2, some (true, .sl 2 (b.map gSetting.v))), (8, some (true, .os 202 (m_spec_l27Names base a b).length)), (9, some (true, .os 203 x1.1.length)), (10, some (true, .int .i64 x1.2))], [(202, some (.row 9 1 ((m_spec_l27Names base a b).map V.str))), (203, some (.row 65 2 (x1.1.map gSetting.v)))]⟩) (fun x1 => ⟨[(9, some (true, .os 203 x1.1.length))], [(203, some (.row 65 2 (x1.1.map gSetting.v)))]⟩) ⟨by first | omega | assumption | (simp only [List.length_append, List.length_cons, List.length_nil, List.length_replicate, put_len] at * <;> omega) | ((have hq := names_le hp1 hp2 hp3; first | omega | (simp only [List.length_append, List.length_cons, List.length_nil]; omega))), by first | omega | assumption | (simp only [List.length_append, List.length_cons, List.length_nil, List.length_replicate, put_len] at * <;> omega) | ((have hq := names_le hp1 hp2 hp3; first | omega | (simp only [List.length_append, List.length_cons, List.length_nil]; omega))), by first | omega | assumption | (simp only [List.length_append, List.length_cons, List.length_nil, List.length_replicate, put_len] at * <;> omega) | ((have hq := names_le hp1 hp2 hp3; first | omega | (simp only [List.length_append, List.length_cons, List.length_nil]; omega))), by first | omega | assumption | (simp only [List.length_append, List.length_cons, List.length_nil, List.length_replicate, put_len] at * <;> omega) | ((have hq := names_le hp1 hp2 hp3; first | omega | (simp only [List.length_append, List.length_cons, List.length_nil]; omega)))⟩ (by first | omega | assumption | (simp only [List.length_append, List.length_cons, List.length_nil, List.length_replicate, put_len] at * <;> omega) | ((have hq := names_le hp1 hp2 hp3; first | omega | (simp only [List.length_append, List.length_cons, List.length_nil]; omega)))) (sub_of [] ⟨rfl, rfl, rfl, rfl, rfl, rfl, trivial⟩ ⟨rfl, rfl, trivial⟩ rfl) ?_ ?_
    · intro x1 i13
      obtain ⟨e15, e16, e17, e18, e19⟩ := i13
      try dsimp only at *
      refine run_seq ?_
      refine run_seq ?_
      refine run_region (q_move .n (.t rfl) rfl <|
          q_len .n (.t rfl) rfl rfl ss_40 rfl <|
          q_int .n (.t rfl) (.c rfl) rfl rfl <|
          Lex.nil) ?_
      refine run_cond (.t rfl) rfl (fun h14 => ?_) (fun h14 => ?_)
      · try simp only [Bool.and_eq_true, Bool.or_eq_true, Bool.not_eq_true', Bool.and_eq_false_iff, Bool.or_eq_false_iff, Bool.not_eq_false', decide_eq_true_eq, decide_eq_false_iff_not, beq_iff_eq, bne_iff_ne, beq_eq_false_iff_ne, bne_eq_false_iff_eq, Bool.true_and, ne_eq, Decidable.not_not, Int.not_lt, Int.not_le, Nat.not_lt, Nat.not_le, strB_nil, strB_nil', strB_nnil, strB_nnil'] at h14
        refine run_seq ?_
        refine run_region (q_assign .n (.c rfl) rfl <|
            q_assign .n (.c rfl) rfl <|
            Lex.nil) ?_
        refine run_sub (sub_adopt (t := 6) (l := 207) (el := 65) (sz := 2) rfl rfl) ?_
        exact run_ret [(100, 207)] (.cons (.t rfl rfl) (.cons (.t rfl rfl) .nil)) (by first | rfl | (simp only [put_len]; rfl)) ⟨rfl, trivial⟩ rfl
      · try simp only [Bool.and_eq_true, Bool.or_eq_true, Bool.not_eq_true', Bool.and_eq_false_iff, Bool.or_eq_false_iff, Bool.not_eq_false', decide_eq_true_eq, decide_eq_false_iff_not, beq_iff_eq, bne_iff_ne, beq_eq_false_iff_ne, bne_eq_false_iff_eq, Bool.true_and, ne_eq, Decidable.not_not, Int.not_lt, Int.not_le, Nat.not_lt, Nat.not_le, strB_nil, strB_nil', strB_nnil, strB_nnil'] at h14
        refine run_skip ?_
        refine run_seq ?_
        refine run_region (q_move .n (.t rfl) rfl <|
            q_assign .n (.t rfl) rfl <|
            q_assign .n (.c rfl) rfl <|
            Lex.nil) ?_
        exact run_ret [(100, 203)] (.cons (.t rfl rfl) (.cons (.t rfl rfl) .nil)) (by first | rfl | (simp only [put_len]; rfl)) ⟨rfl, trivial⟩ rfl
    · intro rec1 k1 hk5 x1 i6
      obtain ⟨e20, e21, e22, e23⟩ := i6
      try dsimp only at *
      refine run_seq ?_
      refine run_seq ?_
      refine run_region (q_move .n (.t rfl) rfl <|
          q_move .n (.t rfl) rfl <|
          q_len .n (.t rfl) rfl rfl ss_30 rfl <|
          q_int .n (.t rfl) (.t rfl) rfl rfl <|
          Lex.nil) ?_
      refine run_cond (.t rfl) rfl (fun h7 => ?_) (fun h7 => ?_)
      · try simp only [Bool.and_eq_true, Bool.or_eq_true, Bool.not_eq_true', Bool.and_eq_false_iff, Bool.or_eq_false_iff, Bool.not_eq_false', decide_eq_true_eq, decide_eq_false_iff_not, beq_iff_eq, bne_iff_ne, beq_eq_false_iff_ne, bne_eq_false_iff_eq, Bool.true_and, ne_eq, Decidable.not_not, Int.not_lt, Int.not_le, Nat.not_lt, Nat.not_le, strB_nil, strB_nil', strB_nnil, strB_nnil'] at h7
        refine run_skip ?_
        refine run_seq ?_
        refine run_block ?_
        refine run_seq ?_
        refine run_region (q_move .n (.t rfl) rfl <|
            q_move .n (.t rfl) rfl <|
            q_move .n (.t rfl) rfl <|
            q_idx_ow .n (.t rfl) (.t rfl) sl_30 (fun _ => by first | omega | assumption | (simp only [List.length_append, List.length_cons, List.length_nil, List.length_replicate, put_len] at * <;> omega) | ((have hq := names_le hp1 hp2 hp3; first | omega | (simp only [List.length_append, List.length_cons, List.length_nil]; omega)))) rfl <|
            q_ld1_row .n (.t rfl) rfl (fun _ => by first | omega | assumption | (simp only [List.length_append, List.length_cons, List.length_nil, List.length_replicate, put_len] at * <;> omega) | ((have hq := names_le hp1 hp2 hp3; first | omega | (simp only [List.length_append, List.length_cons, List.length_nil]; omega)))) rfl rfl rfl ic_9 rfl <|
            q_call0 (full := false) .n .f en_67 (.cons (.t rfl) (.cons (.t rfl) .nil)) (.cons (.b (.a (.same rfl))) (.cons (.b (.a (.same rfl))) .nil)) (fun hg => c_spec_l27Get a (at' (m_spec_l27Names base a b) x1.2)) rfl (fun h => Bool.noConfusion h) rfl <|
            q_alloc (l := 204) .n rfl zv_65 rfl rfl <|
            q_st_boxm [.str (m_spec_l27Get a (at' (m_spec_l27Names base a b) x1.2)).Name, .int .i64 (m_spec_l27Get a (at' (m_spec_l27Names base a b) x1.2)).Value] .n rfl (.t rfl) (.t rfl) rfl ts_65 rfl rfl <|
            Lex.nil) ?_
        refine run_seq ?_
        refine run_seq ?_
        refine run_draw fmo (q_ldN_ow .n (.t rfl) rfl (.inr rfl) ag_65 (fun _ => rfl) rfl rfl <|
            q_move .n (.t rfl) rfl <|
            q_move .n (.t rfl) rfl <|
            q_move .n (.t rfl) rfl <|
            q_idx_ow .n (.t rfl) (.t rfl) sl_30 (fun _ => by first | omega | assumption | (simp only [List.length_append, List.length_cons, List.length_nil, List.length_replicate, put_len] at * <;> omega) | ((have hq := names_le hp1 hp2 hp3; first | omega | (simp only [List.length_append, List.length_cons, List.length_nil]; omega)))) rfl <|
            q_ld1_row .n (.t rfl) rfl (fun _ => by first | omega | assumption | (simp only [List.length_append, List.length_cons, List.length_nil, List.length_replicate, put_len] at * <;> omega) | ((have hq := names_le hp1 hp2 hp3; first | omega | (simp only [List.length_append, List.length_cons, List.length_nil]; omega)))) rfl rfl rfl ic_9 rfl <|
            q_call0 (full := false) .n .f en_67 (.cons (.t rfl) (.cons (.t rfl) .nil)) (.cons (.b (.a (.same rfl))) (.cons (.b (.a (.same rfl))) .nil)) (fun hg => c_spec_l27Get base (at' (m_spec_l27Names base a b) x1.2)) rfl (fun h => Bool.noConfusion h) rfl <|
            q_steq (((strB .eql (m_spec_l27Get a (at' (m_spec_l27Names base a b) x1.2)).Name (m_spec_l27Get base (at' (m_spec_l27Names base a b) x1.2)).Name) && (((m_spec_l27Get a (at' (m_spec_l27Names base a b) x1.2)).Value == (m_spec_l27Get base (at' (m_spec_l27Names base a b) x1.2)).Value) && true))) .n (.t rfl) (.t rfl) (by kernel_rfl) rfl rfl <|
            Lex.nil) (by kernel_rfl) ?_
        refine run_join _ _ rfl (fun v8 : (List UInt8) × Int => True) (fun v8 => ⟨[(0, some (true, .sl 2 (base.map gSetting.v))), (1, some (true, .sl 2 (a.map gSetting.v))), (2, some (true, .sl 2 (b.map gSetting.v))), (8, some (true, .os 202 (m_spec_l27Names base a b).length)), (9, some (true, .os 203 x1.1.length)), (10, some (true, .int .i64 x1.2)), (11, some (true, .op 204 0 0 0))], [(202, some (.row 9 1 ((m_spec_l27Names base a b).map V.str))), (203, some (.row 65 2 (x1.1.map gSetting.v))), (204, some (.box 65 [.str v8.1, .int .i64 v8.2]))]⟩) (fun v8 _ => ?_) (fun j9 hj10 => ?_)
        · refine run_seq ?_
          refine run_region (q_fld_ow .n (.t rfl) fo_65_0 rfl <|
              q_ld1_ow .n (.t rfl) rfl (.inr rfl) (fun _ => rfl) rfl ic_9 rfl <|
              q_strcmp .n (.t rfl) (.c rfl) rfl rfl <|
              Lex.nil) ?_
          refine run_cond (.t rfl) rfl (fun h12 => ?_) (fun h12 => ?_)
          · try simp only [Bool.and_eq_true, Bool.or_eq_true, Bool.not_eq_true', Bool.and_eq_false_iff, Bool.or_eq_false_iff, Bool.not_eq_false', decide_eq_true_eq, decide_eq_false_iff_not, beq_iff_eq, bne_iff_ne, beq_eq_false_iff_ne, bne_eq_false_iff_eq, Bool.true_and, ne_eq, Decidable.not_not, Int.not_lt, Int.not_le, Nat.not_lt, Nat.not_le, strB_nil, strB_nil', strB_nnil, strB_nnil'] at h12
            refine run_region (q_move .n (.t rfl) rfl <|
                q_ldN_ow .n (.t rfl) rfl (.inr rfl) ag_65 (fun _ => rfl) rfl rfl <|
                q_bslicem ([gSetting.mk v8.1 v8.2] : List gSetting) (f := gSetting.v) (l := 205) .n rfl rfl (.cons (.t rfl) .nil) rfl si_40 zv_65 rfl rfl rfl <|
                q_appm (xs := x1.1) (ys := ([gSetting.mk v8.1 v8.2] : List gSetting)) (f := gSetting.v) (l := 206) .n rfl (.ow (.t rfl) rfl (take_all (by simp only [len_map, put_len] <;> rfl)) (by simp only [len_map, put_len] <;> rfl)) (.ow (.t rfl) rfl (take_all (by simp only [len_map, put_len] <;> rfl)) (by simp only [len_map, put_len] <;> rfl)) si_40 zv_65 rfl (by first | omega | assumption | (simp only [List.length_append, List.length_cons, List.length_nil, List.length_replicate, put_len] at * <;> omega) | ((have hq := names_le hp1 hp2 hp3; first | omega | (simp only [List.length_append, List.length_cons, List.length_nil]; omega)))) rfl rfl <|
                q_assign .n (.t rfl) rfl <|
                Lex.nil) ?_
            refine run_endB ?_
            refine run_region (q_move .n (.t rfl) rfl <|
                q_add .n (.t rfl) (.c rfl) (fun _ => by first | omega | assumption | (simp only [List.length_append, List.length_cons, List.length_nil, List.length_replicate, put_len] at * <;> omega) | ((have hq := names_le hp1 hp2 hp3; first | omega | (simp only [List.length_append, List.length_cons, List.length_nil]; omega)))) rfl <|
                q_assign .n (.t rfl) rfl <|
                Lex.nil) ?_
            exact run_again (x1.1 ++ ([gSetting.mk v8.1 v8.2] : List gSetting), x1.2 + 1) ⟨by first | omega | assumption | (simp only [List.length_append, List.length_cons, List.length_nil, List.length_replicate, put_len] at * <;> omega) | ((have hq := names_le hp1 hp2 hp3; first | omega | (simp only [List.length_append, List.length_cons, List.length_nil]; omega))), by first | omega | assumption | (simp only [List.length_append, List.length_cons, List.length_nil, List.length_replicate, put_len] at * <;> omega) | ((have hq := names_le hp1 hp2 hp3; first | omega | (simp only [List.length_append, List.length_cons, List.length_nil]; omega))), by first | omega | assumption | (simp only [List.length_append, List.length_cons, List.length_nil, List.length_replicate, put_len] at * <;> omega) | ((have hq := names_le hp1 hp2 hp3; first | omega | (simp only [List.length_append, List.length_cons, List.length_nil]; omega))), by first | omega | assumption | (simp only [List.length_append, List.length_cons, List.length_nil, List.length_replicate, put_len] at * <;> omega) | ((have hq := names_le hp1 hp2 hp3; first | omega | (simp only [List.length_append, List.length_cons, List.length_nil]; omega)))⟩ (by first | omega | assumption | (simp only [List.length_append, List.length_cons, List.length_nil, List.length_replicate, put_len] at * <;> omega) | ((have hq := names_le hp1 hp2 hp3; first | omega | (simp only [List.length_append, List.length_cons, List.length_nil]; omega)))) (sub_of [(203, 206)] ⟨rfl, rfl, rfl, rfl, rfl, rfl, trivial⟩ ⟨rfl, rfl, trivial⟩ rfl)
          · try simp only [Bool.and_eq_true, Bool.or_eq_true, Bool.not_eq_true', Bool.and_eq_false_iff, Bool.or_eq_false_iff, Bool.not_eq_false', decide_eq_true_eq, decide_eq_false_iff_not, beq_iff_eq, bne_iff_ne, beq_eq_false_iff_ne, bne_eq_false_iff_eq, Bool.true_and, ne_eq, Decidable.not_not, Int.not_lt, Int.not_le, Nat.not_lt, Nat.not_le, strB_nil, strB_nil', strB_nnil, strB_nnil'] at h12
            refine run_skip ?_
            refine run_endB ?_
            refine run_region (q_move .n (.t rfl) rfl <|
                q_add .n (.t rfl) (.c rfl) (fun _ => by first | omega | assumption | (simp only [List.length_append, List.length_cons, List.length_nil, List.length_replicate, put_len] at * <;> omega) | ((have hq := names_le hp1 hp2 hp3; first | omega | (simp only [List.length_append, List.length_cons, List.length_nil]; omega)))) rfl <|
                q_assign .n (.t rfl) rfl <|
                Lex.nil) ?_
            exact run_again (x1.1, x1.2 + 1) ⟨by first | omega | assumption | (simp only [List.length_append, List.length_cons, List.length_nil, List.length_replicate, put_len] at * <;> omega) | ((have hq := names_le hp1 hp2 hp3; first | omega | (simp only [List.length_append, List.length_cons, List.length_nil]; omega))), by first | omega | assumption | (simp only [List.length_append, List.length_cons, List.length_nil, List.length_replicate, put_len] at * <;> omega) | ((have hq := names_le hp1 hp2 hp3; first | omega | (simp only [List.length_append, List.length_cons, List.length_nil]; omega))), by first | omega | assumption | (simp only [List.length_append, List.length_cons, List.length_nil, List.length_replicate, put_len] at * <;> omega) | ((have hq := names_le hp1 hp2 hp3; first | omega | (simp only [List.length_append, List.length_cons, List.length_nil]; omega))), by first | omega | assumption | (simp only [List.length_append, List.length_cons, List.length_nil, List.length_replicate, put_len] at * <;> omega) | ((have hq := names_le hp1 hp2 hp3; first | omega | (simp only [List.length_append, List.length_cons, List.length_nil]; omega)))⟩ (by first | omega | assumption | (simp only [List.length_append, List.length_cons, List.length_nil, List.length_replicate, put_len] at * <;> omega) | ((have hq := names_le hp1 hp2 hp3; first | omega | (simp only [List.length_append, List.length_cons, List.length_nil]; omega)))) (sub_of [] ⟨rfl, rfl, rfl, rfl, rfl, rfl, trivial⟩ ⟨rfl, rfl, trivial⟩ rfl)
        · refine run_cond (.t rfl) rfl (fun h11 => ?_) (fun h11 => ?_)
          · try simp only [Bool.and_eq_true, Bool.or_eq_true, Bool.not_eq_true', Bool.and_eq_false_iff, Bool.or_eq_false_iff, Bool.not_eq_false', decide_eq_true_eq, decide_eq_false_iff_not, beq_iff_eq, bne_iff_ne, beq_eq_false_iff_ne, bne_eq_false_iff_eq, Bool.true_and, ne_eq, Decidable.not_not, Int.not_lt, Int.not_le, Nat.not_lt, Nat.not_le, strB_nil, strB_nil', strB_nnil, strB_nnil'] at h11
            refine run_region (q_move .n (.t rfl) rfl <|
                q_move .n (.t rfl) rfl <|
                q_move .n (.t rfl) rfl <|
                q_idx_ow .n (.t rfl) (.t rfl) sl_30 (fun _ => by first | omega | assumption | (simp only [List.length_append, List.length_cons, List.length_nil, List.length_replicate, put_len] at * <;> omega) | ((have hq := names_le hp1 hp2 hp3; first | omega | (simp only [List.length_append, List.length_cons, List.length_nil]; omega)))) rfl <|
                q_ld1_row .n (.t rfl) rfl (fun _ => by first | omega | assumption | (simp only [List.length_append, List.length_cons, List.length_nil, List.length_replicate, put_len] at * <;> omega) | ((have hq := names_le hp1 hp2 hp3; first | omega | (simp only [List.length_append, List.length_cons, List.length_nil]; omega)))) rfl rfl rfl ic_9 rfl <|
                q_call0 (full := false) .n .f en_67 (.cons (.t rfl) (.cons (.t rfl) .nil)) (.cons (.b (.a (.same rfl))) (.cons (.b (.a (.same rfl))) .nil)) (fun hg => c_spec_l27Get b (at' (m_spec_l27Names base a b) x1.2)) rfl (fun h => Bool.noConfusion h) rfl <|
                q_st_boxm [.str (m_spec_l27Get b (at' (m_spec_l27Names base a b) x1.2)).Name, .int .i64 (m_spec_l27Get b (at' (m_spec_l27Names base a b) x1.2)).Value] .n rfl (.t rfl) (.t rfl) rfl ts_65 rfl rfl <|
                Lex.nil) ?_
            exact run_cont hj10 ((m_spec_l27Get b (at' (m_spec_l27Names base a b) x1.2)).Name, (m_spec_l27Get b (at' (m_spec_l27Names base a b) x1.2)).Value) trivial (sub_of [] ⟨rfl, rfl, rfl, rfl, rfl, rfl, rfl, trivial⟩ ⟨rfl, rfl, rfl, trivial⟩ rfl)
          · try simp only [Bool.and_eq_true, Bool.or_eq_true, Bool.not_eq_true', Bool.and_eq_false_iff, Bool.or_eq_false_iff, Bool.not_eq_false', decide_eq_true_eq, decide_eq_false_iff_not, beq_iff_eq, bne_iff_ne, beq_eq_false_iff_ne, bne_eq_false_iff_eq, Bool.true_and, ne_eq, Decidable.not_not, Int.not_lt, Int.not_le, Nat.not_lt, Nat.not_le, strB_nil, strB_nil', strB_nnil, strB_nnil'] at h11
            refine run_skip ?_
            exact run_cont hj10 ((m_spec_l27Get a (at' (m_spec_l27Names base a b) x1.2)).Name, (m_spec_l27Get a (at' (m_spec_l27Names base a b) x1.2)).Value) trivial (sub_of [] ⟨rfl, rfl, rfl, rfl, rfl, rfl, rfl, trivial⟩ ⟨rfl, rfl, rfl, trivial⟩ rfl)
      · try simp only [Bool.and_eq_true, Bool.or_eq_true, Bool.not_eq_true', Bool.and_eq_false_iff, Bool.or_eq_false_iff, Bool.not_eq_false', decide_eq_true_eq, decide_eq_false_iff_not, beq_iff_eq, bne_iff_ne, beq_eq_false_iff_ne, bne_eq_false_iff_eq, Bool.true_and, ne_eq, Decidable.not_not, Int.not_lt, Int.not_le, Nat.not_lt, Nat.not_le, strB_nil, strB_nil', strB_nnil, strB_nnil'] at h7
        refine run_exit rfl ?_
        exact run_cont hk5 (x1.1, x1.2) ⟨by first | omega | assumption | (simp only [List.length_append, List.length_cons, List.length_nil, List.length_replicate, put_len] at * <;> omega) | ((have hq := names_le hp1 hp2 hp3; first | omega | (simp only [List.length_append, List.length_cons, List.length_nil]; omega))), by first | omega | assumption | (simp only [List.length_append, List.length_cons, List.length_nil, List.length_replicate, put_len] at * <;> omega) | ((have hq := names_le hp1 hp2 hp3; first | omega | (simp only [List.length_append, List.length_cons, List.length_nil]; omega))), by first | omega | assumption | (simp only [List.length_append, List.length_cons, List.length_nil, List.length_replicate, put_len] at * <;> omega) | ((have hq := names_le hp1 hp2 hp3; first | omega | (simp only [List.length_append, List.length_cons, List.length_nil]; omega))), by first | omega | assumption | (simp only [List.length_append, List.length_cons, List.length_nil, List.length_replicate, put_len] at * <;> omega) | ((have hq := names_le hp1 hp2 hp3; first | omega | (simp only [List.length_append, List.length_cons, List.length_nil]; omega))), by first | omega | assumption | (simp only [List.length_append, List.length_cons, List.length_nil, List.length_replicate, put_len] at * <;> omega) | ((have hq := names_le hp1 hp2 hp3; first | omega | (simp only [List.length_append, List.length_cons, List.length_nil]; omega)))⟩ (sub_of [] ⟨rfl, trivial⟩ ⟨rfl, trivial⟩ rfl)

/-! ### spec_MergeStates -/
theorem c_spec_MergeStates (base : List gSetting) (a : List gSetting) (b : List gSetting) : Con Try.prog 25 [.sl 2 (base.map gSetting.v), .sl 2 (a.map gSetting.v), .sl 2 (b.map gSetting.v)] [] (.tup [.os 100 (m_spec_MergeStates base a b).1.length, .int .i64 (m_spec_MergeStates base a b).2]) ([(100, some (.row 65 2 ((m_spec_MergeStates base a b).1.map gSetting.v)))]) := by
  refine con_intro (out := fun r : (List gSetting) × Int => ((.tup [.os 100 r.1.length, .int .i64 r.2] : V), ([(100, some (.row 65 2 (r.1.map gSetting.v)))] : List (Nat × Option O)))) (r := (m_spec_MergeStates base a b)) Try.func25 rfl Try.ntmps25 rfl ?_
  refine run_fact (t := 0) rfl fun hl => ?_
  have l1 := hl; clear hl; simp only [List.length_map] at l1
  refine run_fact (t := 1) rfl fun hl => ?_
  have l2 := hl; clear hl; simp only [List.length_map] at l2
  refine run_fact (t := 2) rfl fun hl => ?_
  have l3 := hl; clear hl; simp only [List.length_map] at l3
  refine run_seq ?_
  refine run_region (q_assign .n (.c rfl) rfl <|
      q_assign .n (.c rfl) rfl <|
      Lex.nil) ?_
  refine run_seq ?_
  refine run_seq ?_
  refine run_region (q_move .n (.t rfl) rfl <|
      q_call0 (full := false) .n .f en_43 (.cons (.t rfl) .nil) (.cons (.b (.a (.same rfl))) .nil) (fun hg => c_spec_l27State base) rfl (fun h => Bool.noConfusion h) rfl <|
      q_not .n (.t rfl) rfl <|
      q_move .n (.t rfl) rfl <|
      q_move (.f rfl rfl) (.t rfl) rfl <|
      q_call0 (full := false) (.f rfl rfl) .f en_43 (.cons (.u rfl id) .nil) (.cons (.b (.a (.same rfl))) .nil) (fun hg => c_spec_l27State a) rfl (fun h => Bool.noConfusion h) rfl <|
      q_not (.f rfl rfl) (.u rfl id) rfl <|
      q_or .n (.t rfl) (.u rfl id) rfl <|
      q_move .n (.t rfl) rfl <|
      q_move (.f rfl rfl) (.t rfl) rfl <|
      q_call0 (full := false) (.f rfl rfl) .f en_43 (.cons (.u rfl id) .nil) (.cons (.b (.a (.same rfl))) .nil) (fun hg => c_spec_l27State b) rfl (fun h => Bool.noConfusion h) rfl <|
      q_not (.f rfl rfl) (.u rfl id) rfl <|
      q_or .n (.t rfl) (.u rfl id) rfl <|
      Lex.nil) ?_
  refine run_cond (.t rfl) rfl (fun h4 => ?_) (fun h4 => ?_)
  · try simp only [Bool.and_eq_true, Bool.or_eq_true, Bool.not_eq_true', Bool.and_eq_false_iff, Bool.or_eq_false_iff, Bool.not_eq_false', decide_eq_true_eq, decide_eq_false_iff_not, beq_iff_eq, bne_iff_ne, beq_eq_false_iff_ne, bne_eq_false_iff_eq, Bool.true_and, ne_eq, Decidable.not_not, Int.not_lt, Int.not_le, Nat.not_lt, Nat.not_le, strB_nil, strB_nil', strB_nnil, strB_nnil'] at h4
    try have hf0h4 := state_l24 h4
    try have hf1h4 := state_l24 h4.1
    try have hf2h4 := state_l24 h4.2
    try have hf3h4 := state_l24 h4.1.1
    try have hf4h4 := state_l24 h4.1.2
    try have hf5h4 := state_l24 h4.2.1
    try have hf6h4 := state_l24 h4.2.2
    refine run_seq ?_
    refine run_region (q_assign .n (.c rfl) rfl <|
        q_assign .n (.c rfl) rfl <|
        Lex.nil) ?_
    refine run_sub (sub_adopt (t := 6) (l := 200) (el := 65) (sz := 2) rfl rfl) ?_
    exact run_ret [(100, 200)] (.cons (.t rfl rfl) (.cons (.t rfl rfl) .nil)) (by first | rfl | (simp only [put_len]; rfl)) ⟨rfl, trivial⟩ rfl
  · try simp only [Bool.and_eq_true, Bool.or_eq_true, Bool.not_eq_true', Bool.and_eq_false_iff, Bool.or_eq_false_iff, Bool.not_eq_false', decide_eq_true_eq, decide_eq_false_iff_not, beq_iff_eq, bne_iff_ne, beq_eq_false_iff_ne, bne_eq_false_iff_eq, Bool.true_and, ne_eq, Decidable.not_not, Int.not_lt, Int.not_le, Nat.not_lt, Nat.not_le, strB_nil, strB_nil', strB_nnil, strB_nnil'] at h4
    try have hf0h4 := state_l24 h4
    try have hf1h4 := state_l24 h4.1
    try have hf2h4 := state_l24 h4.2
    try have hf3h4 := state_l24 h4.1.1
    try have hf4h4 := state_l24 h4.1.2
    try have hf5h4 := state_l24 h4.2.1
    try have hf6h4 := state_l24 h4.2.2
    refine run_skip ?_
    refine run_seq ?_
    refine run_region (q_move .n (.t rfl) rfl <|
        q_move .n (.t rfl) rfl <|
        q_move .n (.t rfl) rfl <|
        q_callM (full := false) [] [(100, 201)] .n rfl .f en_49 (.cons (.t rfl) (.cons (.t rfl) (.cons (.t rfl) .nil))) (.cons (.b (.a (.same rfl))) (.cons (.b (.a (.same rfl))) (.cons (.b (.a (.same rfl))) .nil))) (c_spec_l27Merge base a b (by first | omega | assumption | (simp only [List.length_append, List.length_cons, List.length_nil, List.length_replicate, put_len] at * <;> omega)) (by first | omega | assumption | (simp only [List.length_append, List.length_cons, List.length_nil, List.length_replicate, put_len] at * <;> omega)) (by first | omega | assumption | (simp only [List.length_append, List.length_cons, List.length_nil, List.length_replicate, put_len] at * <;> omega))) trivial rfl rfl (fun h => Bool.noConfusion h) (fun h => Bool.noConfusion h) rfl <|
        q_ext .n (.t rfl) rfl rfl rfl <|
        q_ext .n (.t rfl) rfl rfl rfl <|
        q_assign .n (.t rfl) rfl <|
        q_assign .n (.t rfl) rfl <|
        Lex.nil) ?_
    exact run_ret [(100, 201)] (.cons (.t rfl rfl) (.cons (.t rfl rfl) .nil)) (by first | rfl | (simp only [put_len]; rfl)) ⟨rfl, trivial⟩ rfl

/-! ### impl_within -/
theorem c_impl_within (n_ : Int) (low : Int) (high : Int) : Con Try.prog 80 [.int .i64 n_, .int .i64 low, .int .i64 high] [] (.bool (m_impl_within n_ low high)) ([]) := by
  refine con_intro (out := fun r : Bool => ((.bool r : V), ([] : List (Nat × Option O)))) (r := (m_impl_within n_ low high)) Try.func80 rfl Try.ntmps80 rfl ?_
  refine run_seq ?_
  refine run_region (q_assign .n (.c rfl) rfl <|
      Lex.nil) ?_
  refine run_seq ?_
  refine run_region (q_move .n (.t rfl) rfl <|
      q_move .n (.t rfl) rfl <|
      q_int .n (.t rfl) (.t rfl) rfl rfl <|
      q_move .n (.t rfl) rfl <|
      q_move (.t rfl rfl) (.t rfl) rfl <|
      q_move (.t rfl rfl) (.t rfl) rfl <|
      q_int (.t rfl rfl) (.u rfl id) (.u rfl id) rfl rfl <|
      q_and .n (.t rfl) (.u rfl id) rfl <|
      q_assign .n (.t rfl) rfl <|
      Lex.nil) ?_
  exact run_ret [] (.cons (.t rfl rfl) .nil) rfl trivial rfl


end Go.Proofs.Ytdhehmaglhobjaa
