/-
  THE WALKS: each Go function computes its model. Conditions: as each theorem states them (hp1, hp2 ..).
-/
import Derived.Test.YtandefcnbemclaaDoorExactVersionTextPlain7
import Derived.Test.YtandefcnbemclaaDoorProg
import Derived.Test.YtandefcnbemclaaDoorEngS
set_option linter.unusedVariables false
set_option linter.unusedSimpArgs false
set_option linter.unusedSectionVars false
set_option linter.unnecessarySimpa false
namespace Go.Proofs.YtandefcnbemclaaDoor
open Go Go.RowKit Go.Proofs Go.Proofs.YtandefcnbemclaaDoor.E
theorem fo_88_0 : fldOff Tryd.prog 88 0 = some 0 := by kernel_rfl
theorem ic_9 : isCell Tryd.prog 9 = true := by kernel_rfl
theorem st_9 : isStr Tryd.prog 9 = true := by kernel_rfl
theorem ss_43 : (slEl Tryd.prog 43).isSome = true := by kernel_rfl
theorem sl_43 : slEl Tryd.prog 43 = some (88, 2) := by kernel_rfl
theorem ag_88 : aggSz Tryd.prog 88 = some 2 := by kernel_rfl
theorem en_60 : entB Tryd.prog 60 = true := by kernel_rfl
theorem fo_45_2 : fldOff Tryd.prog 45 2 = some 2 := by kernel_rfl
theorem fo_45_3 : fldOff Tryd.prog 45 3 = some 3 := by kernel_rfl
theorem ic_43 : isCell Tryd.prog 43 = true := by kernel_rfl
theorem en_39 : entB Tryd.prog 39 = true := by kernel_rfl
theorem en_72 : entB Tryd.prog 72 = true := by kernel_rfl
theorem en_73 : entB Tryd.prog 73 = true := by kernel_rfl
theorem fo_78_0 : fldOff Tryd.prog 78 0 = some 0 := by kernel_rfl
theorem en_55 : entB Tryd.prog 55 = true := by kernel_rfl
theorem fo_78_1 : fldOff Tryd.prog 78 1 = some 1 := by kernel_rfl
theorem ic_2 : isCell Tryd.prog 2 = true := by kernel_rfl
theorem en_40 : entB Tryd.prog 40 = true := by kernel_rfl
theorem ss_48 : (slEl Tryd.prog 48).isSome = true := by kernel_rfl
theorem sl_48 : slEl Tryd.prog 48 = some (78, 2) := by kernel_rfl
theorem en_61 : entB Tryd.prog 61 = true := by kernel_rfl
theorem fmo : Tryd.prog.follows .mixedOrders = true := by kernel_rfl
theorem si_91 : slInfo Tryd.prog 91 = some (5, 1, 1) := by kernel_rfl
theorem zv_5 : zeroV Tryd.prog 5 = some (.int .u8 0) := by kernel_rfl
theorem cv_2_5 : cvInt Tryd.prog 2 5 = some .u8 := by kernel_rfl
theorem ss_91 : (slEl Tryd.prog 91).isSome = true := by kernel_rfl
theorem sl_91 : slEl Tryd.prog 91 = some (5, 1) := by kernel_rfl
theorem ic_5 : isCell Tryd.prog 5 = true := by kernel_rfl
theorem bs_91_9 : b2sOk Tryd.prog 91 9 = true := by kernel_rfl
theorem fo_50_0 : fldOff Tryd.prog 50 0 = some 0 := by kernel_rfl
theorem fo_50_1 : fldOff Tryd.prog 50 1 = some 1 := by kernel_rfl
theorem fo_50_2 : fldOff Tryd.prog 50 2 = some 2 := by kernel_rfl
theorem en_41 : entB Tryd.prog 41 = true := by kernel_rfl
theorem fo_50_3 : fldOff Tryd.prog 50 3 = some 3 := by kernel_rfl
theorem ic_48 : isCell Tryd.prog 48 = true := by kernel_rfl
theorem en_42 : entB Tryd.prog 42 = true := by kernel_rfl
theorem en_43 : entB Tryd.prog 43 = true := by kernel_rfl
theorem zv_78 : zeroV Tryd.prog 78 = some (.st [.str ([] : List UInt8), .int .i64 0]) := by kernel_rfl
theorem ts_9 : tySz Tryd.prog 9 = some 1 := by kernel_rfl
theorem fo_88_1 : fldOff Tryd.prog 88 1 = some 1 := by kernel_rfl
theorem ts_2 : tySz Tryd.prog 2 = some 1 := by kernel_rfl
theorem ag_78 : aggSz Tryd.prog 78 = some 2 := by kernel_rfl
theorem ts_78 : tySz Tryd.prog 78 = some 2 := by kernel_rfl
theorem si_48 : slInfo Tryd.prog 48 = some (78, 2, 24) := by kernel_rfl
theorem en_62 : entB Tryd.prog 62 = true := by kernel_rfl
theorem zv_50 : zeroV Tryd.prog 50 = some (.st [.int .i64 0, .int .i64 0, .str ([] : List UInt8), .nls]) := by kernel_rfl
theorem fo_45_0 : fldOff Tryd.prog 45 0 = some 0 := by kernel_rfl
theorem fo_45_1 : fldOff Tryd.prog 45 1 = some 1 := by kernel_rfl
theorem en_44 : entB Tryd.prog 44 = true := by kernel_rfl
theorem ts_48 : tySz Tryd.prog 48 = some 1 := by kernel_rfl
theorem ag_50 : aggSz Tryd.prog 50 = some 4 := by kernel_rfl
theorem ts_50 : tySz Tryd.prog 50 = some 4 := by kernel_rfl
theorem en_63 : entB Tryd.prog 63 = true := by kernel_rfl
theorem en_74 : entB Tryd.prog 74 = true := by kernel_rfl
theorem en_57 : entB Tryd.prog 57 = true := by kernel_rfl
theorem en_45 : entB Tryd.prog 45 = true := by kernel_rfl
theorem en_64 : entB Tryd.prog 64 = true := by kernel_rfl
theorem en_65 : entB Tryd.prog 65 = true := by kernel_rfl
theorem en_46 : entB Tryd.prog 46 = true := by kernel_rfl
theorem en_47 : entB Tryd.prog 47 = true := by kernel_rfl
theorem en_48 : entB Tryd.prog 48 = true := by kernel_rfl
theorem en_66 : entB Tryd.prog 66 = true := by kernel_rfl
theorem en_49 : entB Tryd.prog 49 = true := by kernel_rfl
theorem ag_45 : aggSz Tryd.prog 45 = some 4 := by kernel_rfl
theorem en_20 : entB Tryd.prog 20 = true := by kernel_rfl
theorem en_22 : entB Tryd.prog 22 = true := by kernel_rfl
theorem en_21 : entB Tryd.prog 21 = true := by kernel_rfl
theorem en_23 : entB Tryd.prog 23 = true := by kernel_rfl
theorem en_24 : entB Tryd.prog 24 = true := by kernel_rfl

/-! ### laws_szSetting -/
theorem c_laws_szSetting (a : gSetting) (left : Int) : Con Tryd.prog 60 [.st [.str a.Name, .int .i64 a.Value], .int .i64 left] [] (.int .i64 (m_laws_szSetting a left)) ([]) := by
  refine con_intro (out := fun r : Int => ((.int .i64 r : V), ([] : List (Nat × Option O)))) (r := (m_laws_szSetting a left)) Tryd.func60 rfl Tryd.ntmps60 rfl ?_
  refine run_seq ?_
  refine run_region (q_box (l := 200) .n rfl (.t rfl) rfl rfl rfl rfl <|
      q_assign .n (.c rfl) rfl <|
      Lex.nil) ?_
  refine run_seq ?_
  refine run_region (q_move .n (.t rfl) rfl <|
      q_fld_ow .n (.t rfl) fo_88_0 rfl <|
      q_ld1_ow .n (.t rfl) rfl (.inr rfl) (fun _ => rfl) rfl ic_9 rfl <|
      q_len .n (.t rfl) rfl rfl st_9 rfl <|
      q_int .n (.t rfl) (.t rfl) rfl rfl <|
      q_assign .n (.t rfl) rfl <|
      Lex.nil) ?_
  refine run_seq ?_
  refine run_seq ?_
  refine run_region (q_move .n (.t rfl) rfl <|
      q_int .n (.t rfl) (.c rfl) rfl rfl <|
      Lex.nil) ?_
  refine run_cond (.t rfl) rfl (fun h1 => ?_) (fun h1 => ?_)
  · try simp only [Bool.and_eq_true, Bool.or_eq_true, Bool.not_eq_true', Bool.and_eq_false_iff, Bool.or_eq_false_iff, Bool.not_eq_false', decide_eq_true_eq, decide_eq_false_iff_not, beq_iff_eq, bne_iff_ne, beq_eq_false_iff_ne, bne_eq_false_iff_eq, Bool.true_and, ne_eq, Decidable.not_not, Int.not_lt, Int.not_le, Nat.not_lt, Nat.not_le, strB_nil, strB_nil', strB_nnil, strB_nnil'] at h1
    refine run_seq ?_
    refine run_region (q_assign .n (.c rfl) rfl <|
        Lex.nil) ?_
    exact run_ret [] (.cons (.t rfl rfl) .nil) rfl trivial rfl
  · try simp only [Bool.and_eq_true, Bool.or_eq_true, Bool.not_eq_true', Bool.and_eq_false_iff, Bool.or_eq_false_iff, Bool.not_eq_false', decide_eq_true_eq, decide_eq_false_iff_not, beq_iff_eq, bne_iff_ne, beq_eq_false_iff_ne, bne_eq_false_iff_eq, Bool.true_and, ne_eq, Decidable.not_not, Int.not_lt, Int.not_le, Nat.not_lt, Nat.not_le, strB_nil, strB_nil', strB_nnil, strB_nnil'] at h1
    refine run_skip ?_
    refine run_seq ?_
    refine run_region (q_move .n (.t rfl) rfl <|
        q_assign .n (.t rfl) rfl <|
        Lex.nil) ?_
    exact run_ret [] (.cons (.t rfl rfl) .nil) rfl trivial rfl

/-! ### laws_szSettingS -/
theorem c_laws_szSettingS (a : List gSetting) (left : Int) : Con Tryd.prog 39 [.sl 2 (a.map gSetting.v), .int .i64 left] [] (.int .i64 (m_laws_szSettingS a left)) ([]) := by
  refine con_intro (out := fun r : Int => ((.int .i64 r : V), ([] : List (Nat × Option O)))) (r := (m_laws_szSettingS a left)) Tryd.func39 rfl Tryd.ntmps39 rfl ?_
  refine run_fact (t := 0) rfl fun hl => ?_
  have l1 := hl; clear hl; simp only [List.length_map] at l1
  refine run_seq ?_
  refine run_region (q_assign .n (.c rfl) rfl <|
      Lex.nil) ?_
  refine run_seq ?_
  refine run_region (q_move .n (.t rfl) rfl <|
      q_move .n (.t rfl) rfl <|
      q_len .n (.t rfl) rfl len_map ss_43 rfl <|
      q_int .n (.t rfl) (.t rfl) rfl rfl <|
      q_assign .n (.t rfl) rfl <|
      Lex.nil) ?_
  refine run_seq ?_
  refine run_seq ?_
  refine run_region (q_move .n (.t rfl) rfl <|
      q_int .n (.t rfl) (.c rfl) rfl rfl <|
      Lex.nil) ?_
  refine run_cond (.t rfl) rfl (fun h2 => ?_) (fun h2 => ?_)
  · try simp only [Bool.and_eq_true, Bool.or_eq_true, Bool.not_eq_true', Bool.and_eq_false_iff, Bool.or_eq_false_iff, Bool.not_eq_false', decide_eq_true_eq, decide_eq_false_iff_not, beq_iff_eq, bne_iff_ne, beq_eq_false_iff_ne, bne_eq_false_iff_eq, Bool.true_and, ne_eq, Decidable.not_not, Int.not_lt, Int.not_le, Nat.not_lt, Nat.not_le, strB_nil, strB_nil', strB_nnil, strB_nnil'] at h2
    refine run_seq ?_
    refine run_region (q_assign .n (.c rfl) rfl <|
        Lex.nil) ?_
    exact run_ret [] (.cons (.t rfl rfl) .nil) rfl trivial rfl
  · try simp only [Bool.and_eq_true, Bool.or_eq_true, Bool.not_eq_true', Bool.and_eq_false_iff, Bool.or_eq_false_iff, Bool.not_eq_false', decide_eq_true_eq, decide_eq_false_iff_not, beq_iff_eq, bne_iff_ne, beq_eq_false_iff_ne, bne_eq_false_iff_eq, Bool.true_and, ne_eq, Decidable.not_not, Int.not_lt, Int.not_le, Nat.not_lt, Nat.not_le, strB_nil, strB_nil', strB_nnil, strB_nnil'] at h2
    refine run_skip ?_
    refine run_seq ?_
    refine run_seq ?_
    refine run_region (q_assign .n (.c rfl) rfl <|
        Lex.nil) ?_
    refine run_block ?_
    refine run_LOOP (m_laws_szSettingS_b1 a left) _ _ _ rfl (fun (x1 : Int × Int) => 0 ≤ x1.2 ∧ x1.2 ≤ (a.length : Int)) (fun x1 => 0 ≤ x1.2 ∧ x1.2 ≤ (a.length : Int) ∧ (a.length : Int) ≤ x1.2) (fun x1 => ((a.length : Int) - x1.2 : Int).toNat) (fun x1 => ⟨[(0, some (true, .sl 2 (a.map gSetting.v))), (1, some (true, .int .i64 x1.1)), (5, some (true, .int .i64 x1.2))], []⟩) (fun x1 => ⟨[(1, some (true, .int .i64 x1.1))], []⟩) ⟨by first | omega | assumption | (simp only [List.length_append, List.length_cons, List.length_nil, List.length_replicate, put_len] at * <;> omega), by first | omega | assumption | (simp only [List.length_append, List.length_cons, List.length_nil, List.length_replicate, put_len] at * <;> omega)⟩ (by first | omega | assumption | (simp only [List.length_append, List.length_cons, List.length_nil, List.length_replicate, put_len] at * <;> omega)) (sub_of [] ⟨rfl, rfl, rfl, trivial⟩ trivial rfl) ?_ ?_
    · intro x1 i7
      obtain ⟨e8, e9, e10⟩ := i7
      try dsimp only at *
      refine run_seq ?_
      refine run_region (q_move .n (.t rfl) rfl <|
          q_assign .n (.t rfl) rfl <|
          Lex.nil) ?_
      exact run_ret [] (.cons (.t rfl rfl) .nil) rfl trivial rfl
    · intro rec1 k1 hk3 x1 i4
      obtain ⟨e11, e12⟩ := i4
      try dsimp only at *
      refine run_seq ?_
      refine run_seq ?_
      refine run_region (q_move .n (.t rfl) rfl <|
          q_move .n (.t rfl) rfl <|
          q_len .n (.t rfl) rfl len_map ss_43 rfl <|
          q_int .n (.t rfl) (.t rfl) rfl rfl <|
          Lex.nil) ?_
      refine run_cond (.t rfl) rfl (fun h5 => ?_) (fun h5 => ?_)
      · try simp only [Bool.and_eq_true, Bool.or_eq_true, Bool.not_eq_true', Bool.and_eq_false_iff, Bool.or_eq_false_iff, Bool.not_eq_false', decide_eq_true_eq, decide_eq_false_iff_not, beq_iff_eq, bne_iff_ne, beq_eq_false_iff_ne, bne_eq_false_iff_eq, Bool.true_and, ne_eq, Decidable.not_not, Int.not_lt, Int.not_le, Nat.not_lt, Nat.not_le, strB_nil, strB_nil', strB_nnil, strB_nnil'] at h5
        refine run_skip ?_
        refine run_seq ?_
        refine run_block ?_
        refine run_seq ?_
        refine run_region (q_move .n (.t rfl) rfl <|
            q_move .n (.t rfl) rfl <|
            q_idx_rm .n (.t rfl) (.t rfl) sl_43 (fun _ => by first | omega | assumption | (simp only [List.length_append, List.length_cons, List.length_nil, List.length_replicate, put_len] at * <;> omega)) rfl <|
            q_ldN_ro .n (.t rfl) ag_88 rfl rfl rfl <|
            q_move .n (.t rfl) rfl <|
            q_call0 (full := false) .n .f en_60 (.cons (.t rfl) (.cons (.t rfl) .nil)) (.cons (.sts rfl) (.cons (.b (.a (.same rfl))) .nil)) (fun hg => c_laws_szSetting (at' a x1.2) x1.1) rfl (fun h => Bool.noConfusion h) rfl <|
            q_assign .n (.t rfl) rfl <|
            Lex.nil) ?_
        refine run_seq ?_
        refine run_region (q_move .n (.t rfl) rfl <|
            q_int .n (.t rfl) (.c rfl) rfl rfl <|
            Lex.nil) ?_
        refine run_cond (.t rfl) rfl (fun h6 => ?_) (fun h6 => ?_)
        · try simp only [Bool.and_eq_true, Bool.or_eq_true, Bool.not_eq_true', Bool.and_eq_false_iff, Bool.or_eq_false_iff, Bool.not_eq_false', decide_eq_true_eq, decide_eq_false_iff_not, beq_iff_eq, bne_iff_ne, beq_eq_false_iff_ne, bne_eq_false_iff_eq, Bool.true_and, ne_eq, Decidable.not_not, Int.not_lt, Int.not_le, Nat.not_lt, Nat.not_le, strB_nil, strB_nil', strB_nnil, strB_nnil'] at h6
          try have hf0h6 := szSetting_impA (by assumption) (by omega) (by omega) h6
          try have hf1h6 := szSetting_impA (by assumption) (by omega) (by omega) h6.1
          try have hf2h6 := szSetting_impA (by assumption) (by omega) (by omega) h6.2
          try have hf3h6 := szSetting_impA (by assumption) (by omega) (by omega) h6.1.1
          try have hf4h6 := szSetting_impA (by assumption) (by omega) (by omega) h6.1.2
          try have hf5h6 := szSetting_impA (by assumption) (by omega) (by omega) h6.2.1
          try have hf6h6 := szSetting_impA (by assumption) (by omega) (by omega) h6.2.2
          try have hf7h6 := szSetting_impB (by assumption) (by omega) (by omega) h6
          try have hf8h6 := szSetting_impB (by assumption) (by omega) (by omega) h6.1
          try have hf9h6 := szSetting_impB (by assumption) (by omega) (by omega) h6.2
          try have hf10h6 := szSetting_impB (by assumption) (by omega) (by omega) h6.1.1
          try have hf11h6 := szSetting_impB (by assumption) (by omega) (by omega) h6.1.2
          try have hf12h6 := szSetting_impB (by assumption) (by omega) (by omega) h6.2.1
          try have hf13h6 := szSetting_impB (by assumption) (by omega) (by omega) h6.2.2
          refine run_seq ?_
          refine run_region (q_assign .n (.c rfl) rfl <|
              Lex.nil) ?_
          exact run_ret [] (.cons (.t rfl rfl) .nil) rfl trivial rfl
        · try simp only [Bool.and_eq_true, Bool.or_eq_true, Bool.not_eq_true', Bool.and_eq_false_iff, Bool.or_eq_false_iff, Bool.not_eq_false', decide_eq_true_eq, decide_eq_false_iff_not, beq_iff_eq, bne_iff_ne, beq_eq_false_iff_ne, bne_eq_false_iff_eq, Bool.true_and, ne_eq, Decidable.not_not, Int.not_lt, Int.not_le, Nat.not_lt, Nat.not_le, strB_nil, strB_nil', strB_nnil, strB_nnil'] at h6
          try have hf0h6 := szSetting_impA (by assumption) (by omega) (by omega) h6
          try have hf1h6 := szSetting_impA (by assumption) (by omega) (by omega) h6.1
          try have hf2h6 := szSetting_impA (by assumption) (by omega) (by omega) h6.2
          try have hf3h6 := szSetting_impA (by assumption) (by omega) (by omega) h6.1.1
          try have hf4h6 := szSetting_impA (by assumption) (by omega) (by omega) h6.1.2
          try have hf5h6 := szSetting_impA (by assumption) (by omega) (by omega) h6.2.1
          try have hf6h6 := szSetting_impA (by assumption) (by omega) (by omega) h6.2.2
          try have hf7h6 := szSetting_impB (by assumption) (by omega) (by omega) h6
          try have hf8h6 := szSetting_impB (by assumption) (by omega) (by omega) h6.1
          try have hf9h6 := szSetting_impB (by assumption) (by omega) (by omega) h6.2
          try have hf10h6 := szSetting_impB (by assumption) (by omega) (by omega) h6.1.1
          try have hf11h6 := szSetting_impB (by assumption) (by omega) (by omega) h6.1.2
          try have hf12h6 := szSetting_impB (by assumption) (by omega) (by omega) h6.2.1
          try have hf13h6 := szSetting_impB (by assumption) (by omega) (by omega) h6.2.2
          refine run_skip ?_
          refine run_endB ?_
          refine run_region (q_move .n (.t rfl) rfl <|
              q_add .n (.t rfl) (.c rfl) (fun _ => by first | omega | assumption | (simp only [List.length_append, List.length_cons, List.length_nil, List.length_replicate, put_len] at * <;> omega)) rfl <|
              q_assign .n (.t rfl) rfl <|
              Lex.nil) ?_
          exact run_again (m_laws_szSetting (at' a x1.2) x1.1, x1.2 + 1) ⟨by first | omega | assumption | (simp only [List.length_append, List.length_cons, List.length_nil, List.length_replicate, put_len] at * <;> omega), by first | omega | assumption | (simp only [List.length_append, List.length_cons, List.length_nil, List.length_replicate, put_len] at * <;> omega)⟩ (by first | omega | assumption | (simp only [List.length_append, List.length_cons, List.length_nil, List.length_replicate, put_len] at * <;> omega)) (sub_of [] ⟨rfl, rfl, rfl, trivial⟩ trivial rfl)
      · try simp only [Bool.and_eq_true, Bool.or_eq_true, Bool.not_eq_true', Bool.and_eq_false_iff, Bool.or_eq_false_iff, Bool.not_eq_false', decide_eq_true_eq, decide_eq_false_iff_not, beq_iff_eq, bne_iff_ne, beq_eq_false_iff_ne, bne_eq_false_iff_eq, Bool.true_and, ne_eq, Decidable.not_not, Int.not_lt, Int.not_le, Nat.not_lt, Nat.not_le, strB_nil, strB_nil', strB_nnil, strB_nnil'] at h5
        refine run_exit rfl ?_
        exact run_cont hk3 (x1.1, x1.2) ⟨by first | omega | assumption | (simp only [List.length_append, List.length_cons, List.length_nil, List.length_replicate, put_len] at * <;> omega), by first | omega | assumption | (simp only [List.length_append, List.length_cons, List.length_nil, List.length_replicate, put_len] at * <;> omega), by first | omega | assumption | (simp only [List.length_append, List.length_cons, List.length_nil, List.length_replicate, put_len] at * <;> omega)⟩ (sub_of [] ⟨rfl, trivial⟩ trivial rfl)

/-! ### laws_szVersion -/
theorem c_laws_szVersion (a : gVersion) (left : Int) : Con Tryd.prog 20 [.st [.int .i64 a.Number, .int .i64 a.Parent, .str a.Memo, .sl 2 (a.State.map gSetting.v)], .int .i64 left] [] (.int .i64 (m_laws_szVersion a left)) ([]) := by
  refine con_intro (out := fun r : Int => ((.int .i64 r : V), ([] : List (Nat × Option O)))) (r := (m_laws_szVersion a left)) Tryd.func20 rfl Tryd.ntmps20 rfl ?_
  refine run_factS (t := 0) 3 rfl rfl fun hl => ?_
  have l1 := hl; clear hl; simp only [List.length_map] at l1
  refine run_seq ?_
  refine run_region (q_box (l := 200) .n rfl (.t rfl) rfl rfl rfl rfl <|
      q_assign .n (.c rfl) rfl <|
      Lex.nil) ?_
  refine run_seq ?_
  refine run_region (q_move .n (.t rfl) rfl <|
      q_fld_ow .n (.t rfl) fo_45_2 rfl <|
      q_ld1_ow .n (.t rfl) rfl (.inr rfl) (fun _ => rfl) rfl ic_9 rfl <|
      q_len .n (.t rfl) rfl rfl st_9 rfl <|
      q_int .n (.t rfl) (.t rfl) rfl rfl <|
      q_assign .n (.t rfl) rfl <|
      Lex.nil) ?_
  refine run_seq ?_
  refine run_seq ?_
  refine run_region (q_move .n (.t rfl) rfl <|
      q_int .n (.t rfl) (.c rfl) rfl rfl <|
      Lex.nil) ?_
  refine run_cond (.t rfl) rfl (fun h2 => ?_) (fun h2 => ?_)
  · try simp only [Bool.and_eq_true, Bool.or_eq_true, Bool.not_eq_true', Bool.and_eq_false_iff, Bool.or_eq_false_iff, Bool.not_eq_false', decide_eq_true_eq, decide_eq_false_iff_not, beq_iff_eq, bne_iff_ne, beq_eq_false_iff_ne, bne_eq_false_iff_eq, Bool.true_and, ne_eq, Decidable.not_not, Int.not_lt, Int.not_le, Nat.not_lt, Nat.not_le, strB_nil, strB_nil', strB_nnil, strB_nnil'] at h2
    refine run_seq ?_
    refine run_region (q_assign .n (.c rfl) rfl <|
        Lex.nil) ?_
    exact run_ret [] (.cons (.t rfl rfl) .nil) rfl trivial rfl
  · try simp only [Bool.and_eq_true, Bool.or_eq_true, Bool.not_eq_true', Bool.and_eq_false_iff, Bool.or_eq_false_iff, Bool.not_eq_false', decide_eq_true_eq, decide_eq_false_iff_not, beq_iff_eq, bne_iff_ne, beq_eq_false_iff_ne, bne_eq_false_iff_eq, Bool.true_and, ne_eq, Decidable.not_not, Int.not_lt, Int.not_le, Nat.not_lt, Nat.not_le, strB_nil, strB_nil', strB_nnil, strB_nnil'] at h2
    refine run_skip ?_
    refine run_seq ?_
    refine run_region (q_fld_ow .n (.t rfl) fo_45_3 rfl <|
        q_ld1_ow .n (.t rfl) rfl (.inr rfl) (fun _ => rfl) rfl ic_43 rfl <|
        q_move .n (.t rfl) rfl <|
        q_call0 (full := false) .n .f en_39 (.cons (.t rfl) (.cons (.t rfl) .nil)) (.cons (.b (.a (.same rfl))) (.cons (.b (.a (.same rfl))) .nil)) (fun hg => c_laws_szSettingS a.State (IntKind.wrap .i64 (left - (a.Memo.length : Int)))) rfl (fun h => Bool.noConfusion h) rfl <|
        q_assign .n (.t rfl) rfl <|
        Lex.nil) ?_
    refine run_seq ?_
    refine run_seq ?_
    refine run_region (q_move .n (.t rfl) rfl <|
        q_int .n (.t rfl) (.c rfl) rfl rfl <|
        Lex.nil) ?_
    refine run_cond (.t rfl) rfl (fun h3 => ?_) (fun h3 => ?_)
    · try simp only [Bool.and_eq_true, Bool.or_eq_true, Bool.not_eq_true', Bool.and_eq_false_iff, Bool.or_eq_false_iff, Bool.not_eq_false', decide_eq_true_eq, decide_eq_false_iff_not, beq_iff_eq, bne_iff_ne, beq_eq_false_iff_ne, bne_eq_false_iff_eq, Bool.true_and, ne_eq, Decidable.not_not, Int.not_lt, Int.not_le, Nat.not_lt, Nat.not_le, strB_nil, strB_nil', strB_nnil, strB_nnil'] at h3
      try have hf0h3 := szSettingS_impA (by assumption) (by omega) (by omega) h3
      try have hf1h3 := szSettingS_impA (by assumption) (by omega) (by omega) h3.1
      try have hf2h3 := szSettingS_impA (by assumption) (by omega) (by omega) h3.2
      try have hf3h3 := szSettingS_impA (by assumption) (by omega) (by omega) h3.1.1
      try have hf4h3 := szSettingS_impA (by assumption) (by omega) (by omega) h3.1.2
      try have hf5h3 := szSettingS_impA (by assumption) (by omega) (by omega) h3.2.1
      try have hf6h3 := szSettingS_impA (by assumption) (by omega) (by omega) h3.2.2
      try have hf7h3 := szSettingS_impB (by assumption) (by omega) (by omega) h3
      try have hf8h3 := szSettingS_impB (by assumption) (by omega) (by omega) h3.1
      try have hf9h3 := szSettingS_impB (by assumption) (by omega) (by omega) h3.2
      try have hf10h3 := szSettingS_impB (by assumption) (by omega) (by omega) h3.1.1
      try have hf11h3 := szSettingS_impB (by assumption) (by omega) (by omega) h3.1.2
      try have hf12h3 := szSettingS_impB (by assumption) (by omega) (by omega) h3.2.1
      try have hf13h3 := szSettingS_impB (by assumption) (by omega) (by omega) h3.2.2
      refine run_seq ?_
      refine run_region (q_assign .n (.c rfl) rfl <|
          Lex.nil) ?_
      exact run_ret [] (.cons (.t rfl rfl) .nil) rfl trivial rfl
    · try simp only [Bool.and_eq_true, Bool.or_eq_true, Bool.not_eq_true', Bool.and_eq_false_iff, Bool.or_eq_false_iff, Bool.not_eq_false', decide_eq_true_eq, decide_eq_false_iff_not, beq_iff_eq, bne_iff_ne, beq_eq_false_iff_ne, bne_eq_false_iff_eq, Bool.true_and, ne_eq, Decidable.not_not, Int.not_lt, Int.not_le, Nat.not_lt, Nat.not_le, strB_nil, strB_nil', strB_nnil, strB_nnil'] at h3
      try have hf0h3 := szSettingS_impA (by assumption) (by omega) (by omega) h3
      try have hf1h3 := szSettingS_impA (by assumption) (by omega) (by omega) h3.1
      try have hf2h3 := szSettingS_impA (by assumption) (by omega) (by omega) h3.2
      try have hf3h3 := szSettingS_impA (by assumption) (by omega) (by omega) h3.1.1
      try have hf4h3 := szSettingS_impA (by assumption) (by omega) (by omega) h3.1.2
      try have hf5h3 := szSettingS_impA (by assumption) (by omega) (by omega) h3.2.1
      try have hf6h3 := szSettingS_impA (by assumption) (by omega) (by omega) h3.2.2
      try have hf7h3 := szSettingS_impB (by assumption) (by omega) (by omega) h3
      try have hf8h3 := szSettingS_impB (by assumption) (by omega) (by omega) h3.1
      try have hf9h3 := szSettingS_impB (by assumption) (by omega) (by omega) h3.2
      try have hf10h3 := szSettingS_impB (by assumption) (by omega) (by omega) h3.1.1
      try have hf11h3 := szSettingS_impB (by assumption) (by omega) (by omega) h3.1.2
      try have hf12h3 := szSettingS_impB (by assumption) (by omega) (by omega) h3.2.1
      try have hf13h3 := szSettingS_impB (by assumption) (by omega) (by omega) h3.2.2
      refine run_skip ?_
      refine run_seq ?_
      refine run_region (q_move .n (.t rfl) rfl <|
          q_assign .n (.t rfl) rfl <|
          Lex.nil) ?_
      exact run_ret [] (.cons (.t rfl rfl) .nil) rfl trivial rfl

/-! ### spec_l00In -/
theorem c_spec_l00In (n_ : Int) (low : Int) (high : Int) : Con Tryd.prog 40 [.int .i64 n_, .int .i64 low, .int .i64 high] [] (.bool (m_spec_l00In n_ low high)) ([]) := by
  refine con_intro (out := fun r : Bool => ((.bool r : V), ([] : List (Nat × Option O)))) (r := (m_spec_l00In n_ low high)) Tryd.func40 rfl Tryd.ntmps40 rfl ?_
  refine run_seq ?_
  refine run_region (q_assign .n (.c rfl) rfl <|
      Lex.nil) ?_
  refine run_seq ?_
  refine run_region (q_move .n (.t rfl) rfl <|
      q_move .n (.t rfl) rfl <|
      q_int .n (.t rfl) (.t rfl) rfl rfl <|
      q_move .n (.t rfl) rfl <|
      q_move (.t rfl rfl) (.t rfl) rfl <|
      q_move (.t rfl rfl) (.t rfl) rfl <|
      q_int (.t rfl rfl) (.u rfl id) (.u rfl id) rfl rfl <|
      q_and .n (.t rfl) (.u rfl id) rfl <|
      q_assign .n (.t rfl) rfl <|
      Lex.nil) ?_
  exact run_ret [] (.cons (.t rfl rfl) .nil) rfl trivial rfl

/-! ### spec_l27Memo -/
theorem c_spec_l27Memo (s_ : List UInt8) (hp1 : s_.length ≤ 1048576) : Con Tryd.prog 41 [.str s_] [] (.bool (m_spec_l27Memo s_)) ([]) := by
  refine con_intro (out := fun r : Bool => ((.bool r : V), ([] : List (Nat × Option O)))) (r := (m_spec_l27Memo s_)) Tryd.func41 rfl Tryd.ntmps41 rfl ?_
  refine run_seq ?_
  refine run_region (q_assign .n (.c rfl) rfl <|
      Lex.nil) ?_
  refine run_seq ?_
  refine run_seq ?_
  refine run_region (q_assign .n (.c rfl) rfl <|
      Lex.nil) ?_
  refine run_block ?_
  refine run_LOOP (m_spec_l27Memo_b1 s_) _ _ _ rfl (fun (x1 : Int) => 0 ≤ x1 ∧ x1 ≤ (s_.length : Int)) (fun x1 => 0 ≤ x1 ∧ x1 ≤ (s_.length : Int) ∧ (s_.length : Int) ≤ x1) (fun x1 => ((s_.length : Int) - x1 : Int).toNat) (fun x1 => ⟨[(0, some (true, .str s_)), (3, some (true, .int .i64 x1))], []⟩) (fun x1 => ⟨[(0, some (true, .str s_))], []⟩) ⟨by first | omega | assumption | (simp only [List.length_append, List.length_cons, List.length_nil, List.length_replicate, put_len] at * <;> omega), by first | omega | assumption | (simp only [List.length_append, List.length_cons, List.length_nil, List.length_replicate, put_len] at * <;> omega)⟩ (by first | omega | assumption | (simp only [List.length_append, List.length_cons, List.length_nil, List.length_replicate, put_len] at * <;> omega)) (sub_of [] ⟨rfl, rfl, trivial⟩ trivial rfl) ?_ ?_
  · intro x1 i5
    obtain ⟨e6, e7, e8⟩ := i5
    try dsimp only at *
    refine run_seq ?_
    refine run_region (q_move .n (.t rfl) rfl <|
        q_len .n (.t rfl) rfl rfl st_9 rfl <|
        q_int .n (.t rfl) (.c rfl) rfl rfl <|
        q_assign .n (.t rfl) rfl <|
        Lex.nil) ?_
    exact run_ret [] (.cons (.t rfl rfl) .nil) rfl trivial rfl
  · intro rec1 k1 hk1 x1 i2
    obtain ⟨e9, e10⟩ := i2
    try dsimp only at *
    refine run_seq ?_
    refine run_seq ?_
    refine run_region (q_move .n (.t rfl) rfl <|
        q_move .n (.t rfl) rfl <|
        q_len .n (.t rfl) rfl rfl st_9 rfl <|
        q_int .n (.t rfl) (.t rfl) rfl rfl <|
        Lex.nil) ?_
    refine run_cond (.t rfl) rfl (fun h3 => ?_) (fun h3 => ?_)
    · try simp only [Bool.and_eq_true, Bool.or_eq_true, Bool.not_eq_true', Bool.and_eq_false_iff, Bool.or_eq_false_iff, Bool.not_eq_false', decide_eq_true_eq, decide_eq_false_iff_not, beq_iff_eq, bne_iff_ne, beq_eq_false_iff_ne, bne_eq_false_iff_eq, Bool.true_and, ne_eq, Decidable.not_not, Int.not_lt, Int.not_le, Nat.not_lt, Nat.not_le, strB_nil, strB_nil', strB_nnil, strB_nnil'] at h3
      refine run_skip ?_
      refine run_seq ?_
      refine run_block ?_
      refine run_seq ?_
      refine run_region (q_move .n (.t rfl) rfl <|
          q_move .n (.t rfl) rfl <|
          q_strat .n (.t rfl) (.t rfl) st_9 (fun _ => by first | omega | assumption | (simp only [List.length_append, List.length_cons, List.length_nil, List.length_replicate, put_len] at * <;> omega)) rfl <|
          q_int .n (.t rfl) (.c rfl) rfl rfl <|
          q_move .n (.t rfl) rfl <|
          q_move (.f rfl rfl) (.t rfl) rfl <|
          q_move (.f rfl rfl) (.t rfl) rfl <|
          q_strat (.f rfl rfl) (.u rfl id) (.u rfl id) st_9 (fun hg => by simp only [Bool.and_eq_true, Bool.or_eq_true, Bool.not_eq_true', Bool.and_eq_false_iff, Bool.or_eq_false_iff, Bool.not_eq_false', decide_eq_true_eq, decide_eq_false_iff_not, beq_iff_eq, bne_iff_ne, beq_eq_false_iff_ne, bne_eq_false_iff_eq, Bool.true_and, ne_eq, Decidable.not_not, Int.not_lt, Int.not_le, Nat.not_lt, Nat.not_le, strB_nil, strB_nil', strB_nnil, strB_nnil'] at hg; first | omega | assumption | (simp only [List.length_append, List.length_cons, List.length_nil, List.length_replicate, put_len] at * <;> omega)) rfl <|
          q_int (.f rfl rfl) (.u rfl id) (.c rfl) rfl rfl <|
          q_or .n (.t rfl) (.u rfl id) rfl <|
          Lex.nil) ?_
      refine run_cond (.t rfl) rfl (fun h4 => ?_) (fun h4 => ?_)
      · try simp only [Bool.and_eq_true, Bool.or_eq_true, Bool.not_eq_true', Bool.and_eq_false_iff, Bool.or_eq_false_iff, Bool.not_eq_false', decide_eq_true_eq, decide_eq_false_iff_not, beq_iff_eq, bne_iff_ne, beq_eq_false_iff_ne, bne_eq_false_iff_eq, Bool.true_and, ne_eq, Decidable.not_not, Int.not_lt, Int.not_le, Nat.not_lt, Nat.not_le, strB_nil, strB_nil', strB_nnil, strB_nnil'] at h4
        refine run_seq ?_
        refine run_region (q_assign .n (.c rfl) rfl <|
            Lex.nil) ?_
        exact run_ret [] (.cons (.t rfl rfl) .nil) rfl trivial rfl
      · try simp only [Bool.and_eq_true, Bool.or_eq_true, Bool.not_eq_true', Bool.and_eq_false_iff, Bool.or_eq_false_iff, Bool.not_eq_false', decide_eq_true_eq, decide_eq_false_iff_not, beq_iff_eq, bne_iff_ne, beq_eq_false_iff_ne, bne_eq_false_iff_eq, Bool.true_and, ne_eq, Decidable.not_not, Int.not_lt, Int.not_le, Nat.not_lt, Nat.not_le, strB_nil, strB_nil', strB_nnil, strB_nnil'] at h4
        refine run_skip ?_
        refine run_endB ?_
        refine run_region (q_move .n (.t rfl) rfl <|
            q_add .n (.t rfl) (.c rfl) (fun _ => by first | omega | assumption | (simp only [List.length_append, List.length_cons, List.length_nil, List.length_replicate, put_len] at * <;> omega)) rfl <|
            q_assign .n (.t rfl) rfl <|
            Lex.nil) ?_
        exact run_again (x1 + 1) ⟨by first | omega | assumption | (simp only [List.length_append, List.length_cons, List.length_nil, List.length_replicate, put_len] at * <;> omega), by first | omega | assumption | (simp only [List.length_append, List.length_cons, List.length_nil, List.length_replicate, put_len] at * <;> omega)⟩ (by first | omega | assumption | (simp only [List.length_append, List.length_cons, List.length_nil, List.length_replicate, put_len] at * <;> omega)) (sub_of [] ⟨rfl, rfl, trivial⟩ trivial rfl)
    · try simp only [Bool.and_eq_true, Bool.or_eq_true, Bool.not_eq_true', Bool.and_eq_false_iff, Bool.or_eq_false_iff, Bool.not_eq_false', decide_eq_true_eq, decide_eq_false_iff_not, beq_iff_eq, bne_iff_ne, beq_eq_false_iff_ne, bne_eq_false_iff_eq, Bool.true_and, ne_eq, Decidable.not_not, Int.not_lt, Int.not_le, Nat.not_lt, Nat.not_le, strB_nil, strB_nil', strB_nnil, strB_nnil'] at h3
      refine run_exit rfl ?_
      exact run_cont hk1 x1 ⟨by first | omega | assumption | (simp only [List.length_append, List.length_cons, List.length_nil, List.length_replicate, put_len] at * <;> omega), by first | omega | assumption | (simp only [List.length_append, List.length_cons, List.length_nil, List.length_replicate, put_len] at * <;> omega), by first | omega | assumption | (simp only [List.length_append, List.length_cons, List.length_nil, List.length_replicate, put_len] at * <;> omega)⟩ (sub_of [] ⟨rfl, trivial⟩ trivial rfl)

/-! ### spec_l01Small -/
theorem c_spec_l01Small (c_ : Int) : Con Tryd.prog 72 [.int .u8 c_] [] (.bool (m_spec_l01Small c_)) ([]) := by
  refine con_intro (out := fun r : Bool => ((.bool r : V), ([] : List (Nat × Option O)))) (r := (m_spec_l01Small c_)) Tryd.func72 rfl Tryd.ntmps72 rfl ?_
  refine run_seq ?_
  refine run_region (q_assign .n (.c rfl) rfl <|
      Lex.nil) ?_
  refine run_seq ?_
  refine run_region (q_move .n (.t rfl) rfl <|
      q_int .n (.t rfl) (.c rfl) rfl rfl <|
      q_move .n (.t rfl) rfl <|
      q_move (.t rfl rfl) (.t rfl) rfl <|
      q_int (.t rfl rfl) (.u rfl id) (.c rfl) rfl rfl <|
      q_and .n (.t rfl) (.u rfl id) rfl <|
      q_assign .n (.t rfl) rfl <|
      Lex.nil) ?_
  exact run_ret [] (.cons (.t rfl rfl) .nil) rfl trivial rfl

/-! ### spec_l01Digit -/
theorem c_spec_l01Digit (c_ : Int) : Con Tryd.prog 73 [.int .u8 c_] [] (.bool (m_spec_l01Digit c_)) ([]) := by
  refine con_intro (out := fun r : Bool => ((.bool r : V), ([] : List (Nat × Option O)))) (r := (m_spec_l01Digit c_)) Tryd.func73 rfl Tryd.ntmps73 rfl ?_
  refine run_seq ?_
  refine run_region (q_assign .n (.c rfl) rfl <|
      Lex.nil) ?_
  refine run_seq ?_
  refine run_region (q_move .n (.t rfl) rfl <|
      q_int .n (.t rfl) (.c rfl) rfl rfl <|
      q_move .n (.t rfl) rfl <|
      q_move (.t rfl rfl) (.t rfl) rfl <|
      q_int (.t rfl rfl) (.u rfl id) (.c rfl) rfl rfl <|
      q_and .n (.t rfl) (.u rfl id) rfl <|
      q_assign .n (.t rfl) rfl <|
      Lex.nil) ?_
  exact run_ret [] (.cons (.t rfl rfl) .nil) rfl trivial rfl

/-! ### spec_l01Name -/
theorem c_spec_l01Name (s_ : List UInt8) : Con Tryd.prog 55 [.str s_] [] (.bool (m_spec_l01Name s_)) ([]) := by
  refine con_intro (out := fun r : Bool => ((.bool r : V), ([] : List (Nat × Option O)))) (r := (m_spec_l01Name s_)) Tryd.func55 rfl Tryd.ntmps55 rfl ?_
  refine run_seq ?_
  refine run_region (q_assign .n (.c rfl) rfl <|
      Lex.nil) ?_
  refine run_seq ?_
  refine run_seq ?_
  refine run_region (q_move .n (.t rfl) rfl <|
      q_strcmp .n (.t rfl) (.c rfl) rfl rfl <|
      q_move .n (.t rfl) rfl <|
      q_move (.f rfl rfl) (.t rfl) rfl <|
      q_len (.f rfl rfl) (.u rfl id) rfl rfl st_9 rfl <|
      q_int (.f rfl rfl) (.u rfl id) (.c rfl) rfl rfl <|
      q_or .n (.t rfl) (.u rfl id) rfl <|
      q_move .n (.t rfl) rfl <|
      q_move (.f rfl rfl) (.t rfl) rfl <|
      q_strat (.f rfl rfl) (.u rfl id) (.c rfl) st_9 (fun hg => by simp only [Bool.and_eq_true, Bool.or_eq_true, Bool.not_eq_true', Bool.and_eq_false_iff, Bool.or_eq_false_iff, Bool.not_eq_false', decide_eq_true_eq, decide_eq_false_iff_not, beq_iff_eq, bne_iff_ne, beq_eq_false_iff_ne, bne_eq_false_iff_eq, Bool.true_and, ne_eq, Decidable.not_not, Int.not_lt, Int.not_le, Nat.not_lt, Nat.not_le, strB_nil, strB_nil', strB_nnil, strB_nnil'] at hg; first | omega | assumption | (simp only [List.length_append, List.length_cons, List.length_nil, List.length_replicate, put_len] at * <;> omega)) rfl <|
      q_call0 (full := false) (.f rfl rfl) .f en_72 (.cons (.u rfl id) .nil) (.cons (.b (.a (.same rfl))) .nil) (fun hg => c_spec_l01Small (((s_.getD (0 : Int).toNat 0).toNat : Nat) : Int)) rfl (fun h => Bool.noConfusion h) rfl <|
      q_not (.f rfl rfl) (.u rfl id) rfl <|
      q_or .n (.t rfl) (.u rfl id) rfl <|
      Lex.nil) ?_
  refine run_cond (.t rfl) rfl (fun h1 => ?_) (fun h1 => ?_)
  · try simp only [Bool.and_eq_true, Bool.or_eq_true, Bool.not_eq_true', Bool.and_eq_false_iff, Bool.or_eq_false_iff, Bool.not_eq_false', decide_eq_true_eq, decide_eq_false_iff_not, beq_iff_eq, bne_iff_ne, beq_eq_false_iff_ne, bne_eq_false_iff_eq, Bool.true_and, ne_eq, Decidable.not_not, Int.not_lt, Int.not_le, Nat.not_lt, Nat.not_le, strB_nil, strB_nil', strB_nnil, strB_nnil'] at h1
    refine run_seq ?_
    refine run_region (q_assign .n (.c rfl) rfl <|
        Lex.nil) ?_
    exact run_ret [] (.cons (.t rfl rfl) .nil) rfl trivial rfl
  · try simp only [Bool.and_eq_true, Bool.or_eq_true, Bool.not_eq_true', Bool.and_eq_false_iff, Bool.or_eq_false_iff, Bool.not_eq_false', decide_eq_true_eq, decide_eq_false_iff_not, beq_iff_eq, bne_iff_ne, beq_eq_false_iff_ne, bne_eq_false_iff_eq, Bool.true_and, ne_eq, Decidable.not_not, Int.not_lt, Int.not_le, Nat.not_lt, Nat.not_le, strB_nil, strB_nil', strB_nnil, strB_nnil'] at h1
    refine run_skip ?_
    refine run_seq ?_
    refine run_seq ?_
    refine run_region (q_assign .n (.c rfl) rfl <|
        Lex.nil) ?_
    refine run_block ?_
    refine run_LOOP (m_spec_l01Name_b1 s_) _ _ _ rfl (fun (x1 : Int) => 0 ≤ x1 ∧ x1 ≤ (s_.length : Int)) (fun x1 => 0 ≤ x1 ∧ x1 ≤ (s_.length : Int) ∧ (s_.length : Int) ≤ x1) (fun x1 => ((s_.length : Int) - x1 : Int).toNat) (fun x1 => ⟨[(0, some (true, .str s_)), (3, some (true, .int .i64 x1))], []⟩) (fun x1 => ⟨[], []⟩) ⟨by first | omega | assumption | (simp only [List.length_append, List.length_cons, List.length_nil, List.length_replicate, put_len] at * <;> omega), by first | omega | assumption | (simp only [List.length_append, List.length_cons, List.length_nil, List.length_replicate, put_len] at * <;> omega)⟩ (by first | omega | assumption | (simp only [List.length_append, List.length_cons, List.length_nil, List.length_replicate, put_len] at * <;> omega)) (sub_of [] ⟨rfl, rfl, trivial⟩ trivial rfl) ?_ ?_
    · intro x1 i6
      obtain ⟨e7, e8, e9⟩ := i6
      try dsimp only at *
      refine run_seq ?_
      refine run_region (q_assign .n (.c rfl) rfl <|
          Lex.nil) ?_
      exact run_ret [] (.cons (.t rfl rfl) .nil) rfl trivial rfl
    · intro rec1 k1 hk2 x1 i3
      obtain ⟨e10, e11⟩ := i3
      try dsimp only at *
      refine run_seq ?_
      refine run_seq ?_
      refine run_region (q_move .n (.t rfl) rfl <|
          q_move .n (.t rfl) rfl <|
          q_len .n (.t rfl) rfl rfl st_9 rfl <|
          q_int .n (.t rfl) (.t rfl) rfl rfl <|
          Lex.nil) ?_
      refine run_cond (.t rfl) rfl (fun h4 => ?_) (fun h4 => ?_)
      · try simp only [Bool.and_eq_true, Bool.or_eq_true, Bool.not_eq_true', Bool.and_eq_false_iff, Bool.or_eq_false_iff, Bool.not_eq_false', decide_eq_true_eq, decide_eq_false_iff_not, beq_iff_eq, bne_iff_ne, beq_eq_false_iff_ne, bne_eq_false_iff_eq, Bool.true_and, ne_eq, Decidable.not_not, Int.not_lt, Int.not_le, Nat.not_lt, Nat.not_le, strB_nil, strB_nil', strB_nnil, strB_nnil'] at h4
        refine run_skip ?_
        refine run_seq ?_
        refine run_block ?_
        refine run_seq ?_
        refine run_region (q_move .n (.t rfl) rfl <|
            q_move .n (.t rfl) rfl <|
            q_strat .n (.t rfl) (.t rfl) st_9 (fun _ => by first | omega | assumption | (simp only [List.length_append, List.length_cons, List.length_nil, List.length_replicate, put_len] at * <;> omega)) rfl <|
            q_call0 (full := false) .n .f en_72 (.cons (.t rfl) .nil) (.cons (.b (.a (.same rfl))) .nil) (fun hg => c_spec_l01Small (((s_.getD x1.toNat 0).toNat : Nat) : Int)) rfl (fun h => Bool.noConfusion h) rfl <|
            q_not .n (.t rfl) rfl <|
            q_move .n (.t rfl) rfl <|
            q_move (.t rfl rfl) (.t rfl) rfl <|
            q_move (.t rfl rfl) (.t rfl) rfl <|
            q_strat (.t rfl rfl) (.u rfl id) (.u rfl id) st_9 (fun hg => by simp only [Bool.and_eq_true, Bool.or_eq_true, Bool.not_eq_true', Bool.and_eq_false_iff, Bool.or_eq_false_iff, Bool.not_eq_false', decide_eq_true_eq, decide_eq_false_iff_not, beq_iff_eq, bne_iff_ne, beq_eq_false_iff_ne, bne_eq_false_iff_eq, Bool.true_and, ne_eq, Decidable.not_not, Int.not_lt, Int.not_le, Nat.not_lt, Nat.not_le, strB_nil, strB_nil', strB_nnil, strB_nnil'] at hg; first | omega | assumption | (simp only [List.length_append, List.length_cons, List.length_nil, List.length_replicate, put_len] at * <;> omega)) rfl <|
            q_call0 (full := false) (.t rfl rfl) .f en_73 (.cons (.u rfl id) .nil) (.cons (.b (.a (.same rfl))) .nil) (fun hg => c_spec_l01Digit (((s_.getD x1.toNat 0).toNat : Nat) : Int)) rfl (fun h => Bool.noConfusion h) rfl <|
            q_not (.t rfl rfl) (.u rfl id) rfl <|
            q_and .n (.t rfl) (.u rfl id) rfl <|
            Lex.nil) ?_
        refine run_cond (.t rfl) rfl (fun h5 => ?_) (fun h5 => ?_)
        · try simp only [Bool.and_eq_true, Bool.or_eq_true, Bool.not_eq_true', Bool.and_eq_false_iff, Bool.or_eq_false_iff, Bool.not_eq_false', decide_eq_true_eq, decide_eq_false_iff_not, beq_iff_eq, bne_iff_ne, beq_eq_false_iff_ne, bne_eq_false_iff_eq, Bool.true_and, ne_eq, Decidable.not_not, Int.not_lt, Int.not_le, Nat.not_lt, Nat.not_le, strB_nil, strB_nil', strB_nnil, strB_nnil'] at h5
          refine run_seq ?_
          refine run_region (q_assign .n (.c rfl) rfl <|
              Lex.nil) ?_
          exact run_ret [] (.cons (.t rfl rfl) .nil) rfl trivial rfl
        · try simp only [Bool.and_eq_true, Bool.or_eq_true, Bool.not_eq_true', Bool.and_eq_false_iff, Bool.or_eq_false_iff, Bool.not_eq_false', decide_eq_true_eq, decide_eq_false_iff_not, beq_iff_eq, bne_iff_ne, beq_eq_false_iff_ne, bne_eq_false_iff_eq, Bool.true_and, ne_eq, Decidable.not_not, Int.not_lt, Int.not_le, Nat.not_lt, Nat.not_le, strB_nil, strB_nil', strB_nnil, strB_nnil'] at h5
          refine run_skip ?_
          refine run_endB ?_
          refine run_region (q_move .n (.t rfl) rfl <|
              q_add .n (.t rfl) (.c rfl) (fun _ => by first | omega | assumption | (simp only [List.length_append, List.length_cons, List.length_nil, List.length_replicate, put_len] at * <;> omega)) rfl <|
              q_assign .n (.t rfl) rfl <|
              Lex.nil) ?_
          exact run_again (x1 + 1) ⟨by first | omega | assumption | (simp only [List.length_append, List.length_cons, List.length_nil, List.length_replicate, put_len] at * <;> omega), by first | omega | assumption | (simp only [List.length_append, List.length_cons, List.length_nil, List.length_replicate, put_len] at * <;> omega)⟩ (by first | omega | assumption | (simp only [List.length_append, List.length_cons, List.length_nil, List.length_replicate, put_len] at * <;> omega)) (sub_of [] ⟨rfl, rfl, trivial⟩ trivial rfl)
      · try simp only [Bool.and_eq_true, Bool.or_eq_true, Bool.not_eq_true', Bool.and_eq_false_iff, Bool.or_eq_false_iff, Bool.not_eq_false', decide_eq_true_eq, decide_eq_false_iff_not, beq_iff_eq, bne_iff_ne, beq_eq_false_iff_ne, bne_eq_false_iff_eq, Bool.true_and, ne_eq, Decidable.not_not, Int.not_lt, Int.not_le, Nat.not_lt, Nat.not_le, strB_nil, strB_nil', strB_nnil, strB_nnil'] at h4
        refine run_exit rfl ?_
        exact run_cont hk2 x1 ⟨by first | omega | assumption | (simp only [List.length_append, List.length_cons, List.length_nil, List.length_replicate, put_len] at * <;> omega), by first | omega | assumption | (simp only [List.length_append, List.length_cons, List.length_nil, List.length_replicate, put_len] at * <;> omega), by first | omega | assumption | (simp only [List.length_append, List.length_cons, List.length_nil, List.length_replicate, put_len] at * <;> omega)⟩ (sub_of [] trivial trivial rfl)

/-! ### spec_l27Setting -/
theorem c_spec_l27Setting (e : gSetting) : Con Tryd.prog 61 [.rp [.str e.Name, .int .i64 e.Value]] [] (.bool (m_spec_l27Setting e)) ([]) := by
  refine con_intro (out := fun r : Bool => ((.bool r : V), ([] : List (Nat × Option O)))) (r := (m_spec_l27Setting e)) Tryd.func61 rfl Tryd.ntmps61 rfl ?_
  refine run_seq ?_
  refine run_region (q_assign .n (.c rfl) rfl <|
      Lex.nil) ?_
  refine run_seq ?_
  refine run_region (q_move .n (.t rfl) rfl <|
      q_nilc_ro .n (.t rfl) rfl <|
      q_fld_ro .n (.t rfl) fo_78_0 rfl <|
      q_ld1_ro .n (.t rfl) rfl ic_9 rfl <|
      q_call0 (full := false) .n .f en_55 (.cons (.t rfl) .nil) (.cons (.b (.a (.same rfl))) .nil) (fun hg => c_spec_l01Name e.Name) rfl (fun h => Bool.noConfusion h) rfl <|
      q_move .n (.t rfl) rfl <|
      q_move (.t rfl rfl) (.t rfl) rfl <|
      q_nilc_ro (.t rfl rfl) (.u rfl id) rfl <|
      q_fld_ro (.t rfl rfl) (.u rfl id) fo_78_1 rfl <|
      q_ld1_ro (.t rfl rfl) (.u rfl id) rfl ic_2 rfl <|
      q_call0 (full := false) (.t rfl rfl) .f en_40 (.cons (.u rfl id) (.cons (.c rfl) (.cons (.c rfl) .nil))) (.cons (.b (.a (.same rfl))) (.cons (.b (.a (.same rfl))) (.cons (.b (.a (.same rfl))) .nil))) (fun hg => c_spec_l00In e.Value 0 1000) rfl (fun h => Bool.noConfusion h) rfl <|
      q_and .n (.t rfl) (.u rfl id) rfl <|
      q_assign .n (.t rfl) rfl <|
      Lex.nil) ?_
  exact run_ret [] (.cons (.t rfl rfl) .nil) rfl trivial rfl

/-! ### spec_l27State -/
theorem c_spec_l27State (list : List gSetting) : Con Tryd.prog 42 [.sl 2 (list.map gSetting.v)] [] (.bool (m_spec_l27State list)) ([]) := by
  refine con_intro (out := fun r : Bool => ((.bool r : V), ([] : List (Nat × Option O)))) (r := (m_spec_l27State list)) Tryd.func42 rfl Tryd.ntmps42 rfl ?_
  refine run_fact (t := 0) rfl fun hl => ?_
  have l1 := hl; clear hl; simp only [List.length_map] at l1
  refine run_seq ?_
  refine run_region (q_assign .n (.c rfl) rfl <|
      Lex.nil) ?_
  refine run_seq ?_
  refine run_seq ?_
  refine run_region (q_assign .n (.c rfl) rfl <|
      Lex.nil) ?_
  refine run_block ?_
  refine run_LOOP (m_spec_l27State_b1 list) _ _ _ rfl (fun (x1 : Int) => 0 ≤ x1 ∧ x1 ≤ (list.length : Int)) (fun x1 => 0 ≤ x1 ∧ x1 ≤ (list.length : Int) ∧ (list.length : Int) ≤ x1) (fun x1 => ((list.length : Int) - x1 : Int).toNat) (fun x1 => ⟨[(0, some (true, .sl 2 (list.map gSetting.v))), (3, some (true, .int .i64 x1))], []⟩) (fun x1 => ⟨[(0, some (true, .sl 2 (list.map gSetting.v)))], []⟩) ⟨by first | omega | assumption | (simp only [List.length_append, List.length_cons, List.length_nil, List.length_replicate, put_len] at * <;> omega), by first | omega | assumption | (simp only [List.length_append, List.length_cons, List.length_nil, List.length_replicate, put_len] at * <;> omega)⟩ (by first | omega | assumption | (simp only [List.length_append, List.length_cons, List.length_nil, List.length_replicate, put_len] at * <;> omega)) (sub_of [] ⟨rfl, rfl, trivial⟩ trivial rfl) ?_ ?_
  · intro x1 i6
    obtain ⟨e7, e8, e9⟩ := i6
    try dsimp only at *
    refine run_seq ?_
    refine run_region (q_move .n (.t rfl) rfl <|
        q_len .n (.t rfl) rfl len_map ss_48 rfl <|
        q_int .n (.t rfl) (.c rfl) rfl rfl <|
        q_assign .n (.t rfl) rfl <|
        Lex.nil) ?_
    exact run_ret [] (.cons (.t rfl rfl) .nil) rfl trivial rfl
  · intro rec1 k1 hk2 x1 i3
    obtain ⟨e10, e11⟩ := i3
    try dsimp only at *
    refine run_seq ?_
    refine run_seq ?_
    refine run_region (q_move .n (.t rfl) rfl <|
        q_move .n (.t rfl) rfl <|
        q_len .n (.t rfl) rfl len_map ss_48 rfl <|
        q_int .n (.t rfl) (.t rfl) rfl rfl <|
        Lex.nil) ?_
    refine run_cond (.t rfl) rfl (fun h4 => ?_) (fun h4 => ?_)
    · try simp only [Bool.and_eq_true, Bool.or_eq_true, Bool.not_eq_true', Bool.and_eq_false_iff, Bool.or_eq_false_iff, Bool.not_eq_false', decide_eq_true_eq, decide_eq_false_iff_not, beq_iff_eq, bne_iff_ne, beq_eq_false_iff_ne, bne_eq_false_iff_eq, Bool.true_and, ne_eq, Decidable.not_not, Int.not_lt, Int.not_le, Nat.not_lt, Nat.not_le, strB_nil, strB_nil', strB_nnil, strB_nnil'] at h4
      refine run_skip ?_
      refine run_seq ?_
      refine run_block ?_
      refine run_seq ?_
      refine run_draw fmo (q_move .n (.t rfl) rfl <|
          q_move .n (.t rfl) rfl <|
          q_idx_rm .n (.t rfl) (.t rfl) sl_48 (fun _ => by first | omega | assumption | (simp only [List.length_append, List.length_cons, List.length_nil, List.length_replicate, put_len] at * <;> omega)) rfl <|
          q_call0 (full := false) .n .f en_61 (.cons (.t rfl) .nil) (.cons (.b (.a (.same rfl))) .nil) (fun hg => c_spec_l27Setting (at' list x1)) rfl (fun h => Bool.noConfusion h) rfl <|
          q_not .n (.t rfl) rfl <|
          q_move .n (.t rfl) rfl <|
          q_move (.f rfl rfl) (.t rfl) rfl <|
          q_int (.f rfl rfl) (.u rfl id) (.c rfl) rfl rfl <|
          q_move (.f rfl rfl) (.u rfl id) rfl <|
          q_move (.t rfl rfl) (.t rfl) rfl <|
          q_move (.t rfl rfl) (.t rfl) rfl <|
          q_sub (.t rfl rfl) (.u rfl id) (.c rfl) (fun hg => by simp only [Bool.and_eq_true, Bool.or_eq_true, Bool.not_eq_true', Bool.and_eq_false_iff, Bool.or_eq_false_iff, Bool.not_eq_false', decide_eq_true_eq, decide_eq_false_iff_not, beq_iff_eq, bne_iff_ne, beq_eq_false_iff_ne, bne_eq_false_iff_eq, Bool.true_and, ne_eq, Decidable.not_not, Int.not_lt, Int.not_le, Nat.not_lt, Nat.not_le, strB_nil, strB_nil', strB_nnil, strB_nnil'] at hg; first | omega | assumption | (simp only [List.length_append, List.length_cons, List.length_nil, List.length_replicate, put_len] at * <;> omega)) rfl <|
          q_idx_rm (.t rfl rfl) (.u rfl id) (.u rfl id) sl_48 (fun hg => by simp only [Bool.and_eq_true, Bool.or_eq_true, Bool.not_eq_true', Bool.and_eq_false_iff, Bool.or_eq_false_iff, Bool.not_eq_false', decide_eq_true_eq, decide_eq_false_iff_not, beq_iff_eq, bne_iff_ne, beq_eq_false_iff_ne, bne_eq_false_iff_eq, Bool.true_and, ne_eq, Decidable.not_not, Int.not_lt, Int.not_le, Nat.not_lt, Nat.not_le, strB_nil, strB_nil', strB_nnil, strB_nnil'] at hg; first | omega | assumption | (simp only [List.length_append, List.length_cons, List.length_nil, List.length_replicate, put_len] at * <;> omega)) rfl <|
          q_fld_ro (.t rfl rfl) (.u rfl id) fo_78_0 rfl <|
          q_ld1_ro (.t rfl rfl) (.u rfl id) rfl ic_9 rfl <|
          q_move (.t rfl rfl) (.t rfl) rfl <|
          q_move (.t rfl rfl) (.t rfl) rfl <|
          q_idx_rm (.t rfl rfl) (.u rfl id) (.u rfl id) sl_48 (fun hg => by simp only [Bool.and_eq_true, Bool.or_eq_true, Bool.not_eq_true', Bool.and_eq_false_iff, Bool.or_eq_false_iff, Bool.not_eq_false', decide_eq_true_eq, decide_eq_false_iff_not, beq_iff_eq, bne_iff_ne, beq_eq_false_iff_ne, bne_eq_false_iff_eq, Bool.true_and, ne_eq, Decidable.not_not, Int.not_lt, Int.not_le, Nat.not_lt, Nat.not_le, strB_nil, strB_nil', strB_nnil, strB_nnil'] at hg; first | omega | assumption | (simp only [List.length_append, List.length_cons, List.length_nil, List.length_replicate, put_len] at * <;> omega)) rfl <|
          q_fld_ro (.t rfl rfl) (.u rfl id) fo_78_0 rfl <|
          q_ld1_ro (.t rfl rfl) (.u rfl id) rfl ic_9 rfl <|
          q_strcmp (.t rfl rfl) (.u rfl id) (.u rfl id) rfl rfl <|
          q_and (.f rfl rfl) (.u rfl id) (.u rfl id) rfl <|
          q_or .n (.t rfl) (.u rfl id) rfl <|
          Lex.nil) (by kernel_rfl) ?_
      refine run_cond (.t rfl) rfl (fun h5 => ?_) (fun h5 => ?_)
      · try simp only [Bool.and_eq_true, Bool.or_eq_true, Bool.not_eq_true', Bool.and_eq_false_iff, Bool.or_eq_false_iff, Bool.not_eq_false', decide_eq_true_eq, decide_eq_false_iff_not, beq_iff_eq, bne_iff_ne, beq_eq_false_iff_ne, bne_eq_false_iff_eq, Bool.true_and, ne_eq, Decidable.not_not, Int.not_lt, Int.not_le, Nat.not_lt, Nat.not_le, strB_nil, strB_nil', strB_nnil, strB_nnil'] at h5
        refine run_seq ?_
        refine run_region (q_assign .n (.c rfl) rfl <|
            Lex.nil) ?_
        exact run_ret [] (.cons (.t rfl rfl) .nil) rfl trivial rfl
      · try simp only [Bool.and_eq_true, Bool.or_eq_true, Bool.not_eq_true', Bool.and_eq_false_iff, Bool.or_eq_false_iff, Bool.not_eq_false', decide_eq_true_eq, decide_eq_false_iff_not, beq_iff_eq, bne_iff_ne, beq_eq_false_iff_ne, bne_eq_false_iff_eq, Bool.true_and, ne_eq, Decidable.not_not, Int.not_lt, Int.not_le, Nat.not_lt, Nat.not_le, strB_nil, strB_nil', strB_nnil, strB_nnil'] at h5
        refine run_skip ?_
        refine run_endB ?_
        refine run_region (q_move .n (.t rfl) rfl <|
            q_add .n (.t rfl) (.c rfl) (fun _ => by first | omega | assumption | (simp only [List.length_append, List.length_cons, List.length_nil, List.length_replicate, put_len] at * <;> omega)) rfl <|
            q_assign .n (.t rfl) rfl <|
            Lex.nil) ?_
        exact run_again (x1 + 1) ⟨by first | omega | assumption | (simp only [List.length_append, List.length_cons, List.length_nil, List.length_replicate, put_len] at * <;> omega), by first | omega | assumption | (simp only [List.length_append, List.length_cons, List.length_nil, List.length_replicate, put_len] at * <;> omega)⟩ (by first | omega | assumption | (simp only [List.length_append, List.length_cons, List.length_nil, List.length_replicate, put_len] at * <;> omega)) (sub_of [] ⟨rfl, rfl, trivial⟩ trivial rfl)
    · try simp only [Bool.and_eq_true, Bool.or_eq_true, Bool.not_eq_true', Bool.and_eq_false_iff, Bool.or_eq_false_iff, Bool.not_eq_false', decide_eq_true_eq, decide_eq_false_iff_not, beq_iff_eq, bne_iff_ne, beq_eq_false_iff_ne, bne_eq_false_iff_eq, Bool.true_and, ne_eq, Decidable.not_not, Int.not_lt, Int.not_le, Nat.not_lt, Nat.not_le, strB_nil, strB_nil', strB_nnil, strB_nnil'] at h4
      refine run_exit rfl ?_
      exact run_cont hk2 x1 ⟨by first | omega | assumption | (simp only [List.length_append, List.length_cons, List.length_nil, List.length_replicate, put_len] at * <;> omega), by first | omega | assumption | (simp only [List.length_append, List.length_cons, List.length_nil, List.length_replicate, put_len] at * <;> omega), by first | omega | assumption | (simp only [List.length_append, List.length_cons, List.length_nil, List.length_replicate, put_len] at * <;> omega)⟩ (sub_of [] ⟨rfl, trivial⟩ trivial rfl)

/-! ### spec_l01Dec -/
theorem c_spec_l01Dec (n_ : Int) (hp1 : -9223372036854775808 ≤ n_ ∧ n_ ≤ 9223372036854775807) : Con Tryd.prog 43 [.int .i64 n_] [] (.str (m_spec_l01Dec n_)) ([]) := by
  refine con_intro (out := fun r : (List UInt8) => ((.str r : V), ([] : List (Nat × Option O)))) (r := (m_spec_l01Dec n_)) Tryd.func43 rfl Tryd.ntmps43 rfl ?_
  refine run_seq ?_
  refine run_region (q_assign .n (.c rfl) rfl <|
      Lex.nil) ?_
  refine run_seq ?_
  refine run_seq ?_
  refine run_region (q_move .n (.t rfl) rfl <|
      q_int .n (.t rfl) (.c rfl) rfl rfl <|
      Lex.nil) ?_
  refine run_cond (.t rfl) rfl (fun h1 => ?_) (fun h1 => ?_)
  · try simp only [Bool.and_eq_true, Bool.or_eq_true, Bool.not_eq_true', Bool.and_eq_false_iff, Bool.or_eq_false_iff, Bool.not_eq_false', decide_eq_true_eq, decide_eq_false_iff_not, beq_iff_eq, bne_iff_ne, beq_eq_false_iff_ne, bne_eq_false_iff_eq, Bool.true_and, ne_eq, Decidable.not_not, Int.not_lt, Int.not_le, Nat.not_lt, Nat.not_le, strB_nil, strB_nil', strB_nnil, strB_nnil'] at h1
    refine run_seq ?_
    refine run_region (q_assign .n (.c rfl) rfl <|
        Lex.nil) ?_
    exact run_ret [] (.cons (.t rfl rfl) .nil) rfl trivial rfl
  · try simp only [Bool.and_eq_true, Bool.or_eq_true, Bool.not_eq_true', Bool.and_eq_false_iff, Bool.or_eq_false_iff, Bool.not_eq_false', decide_eq_true_eq, decide_eq_false_iff_not, beq_iff_eq, bne_iff_ne, beq_eq_false_iff_ne, bne_eq_false_iff_eq, Bool.true_and, ne_eq, Decidable.not_not, Int.not_lt, Int.not_le, Nat.not_lt, Nat.not_le, strB_nil, strB_nil', strB_nnil, strB_nnil'] at h1
    refine run_skip ?_
    refine run_seq ?_
    refine run_region (q_bslicem ([] : List Int) (f := V.int .u8) (l := 200) .n rfl rfl .nil rfl si_91 zv_5 rfl rfl rfl <|
        q_assign .n (.t rfl) rfl <|
        Lex.nil) ?_
    refine run_seq ?_
    refine run_seq ?_
    refine run_region (q_move .n (.t rfl) rfl <|
        q_assign .n (.t rfl) rfl <|
        Lex.nil) ?_
    refine run_block ?_
    refine run_LOOP (m_spec_l01Dec_b1 n_) _ _ _ rfl (fun (x1 : (List Int) × Int) => DecI x1.1.length x1.2) (fun x1 => DecI x1.1.length x1.2) (fun x1 => x1.2.natAbs) (fun x1 => ⟨[(0, some (true, .int .i64 n_)), (3, some (true, .os 200 x1.1.length)), (4, some (true, .int .i64 x1.2))], [(200, some (.row 5 1 (x1.1.map (V.int .u8))))]⟩) (fun x1 => ⟨[(0, some (true, .int .i64 n_)), (3, some (true, .os 200 x1.1.length))], [(200, some (.row 5 1 (x1.1.map (V.int .u8))))]⟩) (by first | omega | assumption | (simp only [List.length_append, List.length_cons, List.length_nil, List.length_replicate, put_len] at * <;> omega) | (exact DecI.start (by assumption)) | (exact DecI.step (by assumption) (by assumption)) | (exact dec_mu (by assumption) (by assumption)) | ((have hq := DecI.len (by assumption); first | omega | (simp only [List.length_append, List.length_cons, List.length_nil] at *; omega))) | ((rw [wr64 (by omega)]; simp only [List.length_append, List.length_cons, List.length_nil] at *; omega))) (by first | omega | assumption | (simp only [List.length_append, List.length_cons, List.length_nil, List.length_replicate, put_len] at * <;> omega) | (exact DecI.start (by assumption)) | (exact DecI.step (by assumption) (by assumption)) | (exact dec_mu (by assumption) (by assumption)) | ((have hq := DecI.len (by assumption); first | omega | (simp only [List.length_append, List.length_cons, List.length_nil] at *; omega))) | ((rw [wr64 (by omega)]; simp only [List.length_append, List.length_cons, List.length_nil] at *; omega))) (sub_of [] ⟨rfl, rfl, rfl, trivial⟩ ⟨rfl, trivial⟩ rfl) ?_ ?_
    · intro x1 i9
      have e26 := i9
      try dsimp only at *
      refine run_seq ?_
      refine run_seq ?_
      refine run_region (q_move .n (.t rfl) rfl <|
          q_int .n (.t rfl) (.c rfl) rfl rfl <|
          Lex.nil) ?_
      refine run_join _ _ rfl (fun v10 : (List Int) => v10.length ≤ 20) (fun v10 => ⟨[(3, some (true, .os 204 v10.length))], [(204, some (.row 5 1 (v10.map (V.int .u8))))]⟩) (fun v10 hv24 => ?_) (fun j11 hj12 => ?_)
      · have e25 := hv24
        refine run_seq ?_
        refine run_region (q_bslicem ([] : List Int) (f := V.int .u8) (l := 205) .n rfl rfl .nil rfl si_91 zv_5 rfl rfl rfl <|
            q_assign .n (.t rfl) rfl <|
            Lex.nil) ?_
        refine run_seq ?_
        refine run_seq ?_
        refine run_region (q_move .n (.t rfl) rfl <|
            q_len .n (.t rfl) rfl rfl ss_91 rfl <|
            q_int .n (.t rfl) (.c rfl) rfl rfl <|
            q_assign .n (.t rfl) rfl <|
            Lex.nil) ?_
        refine run_block ?_
        refine run_LOOP (m_spec_l01Dec_b2 n_ x1 v10) _ _ _ rfl (fun (x2 : (List Int) × Int) => x2.2 ≤ IntKind.wrap .i64 ((v10.length : Int) - 1) ∧ (x2.1.length : Int) + x2.2 + 1 = v10.length ∧ -1 ≤ x2.2) (fun x2 => x2.2 ≤ IntKind.wrap .i64 ((v10.length : Int) - 1) ∧ (x2.1.length : Int) + x2.2 + 1 = v10.length ∧ -1 ≤ x2.2) (fun x2 => (x2.2 + 1 : Int).toNat) (fun x2 => ⟨[(3, some (true, .os 204 v10.length)), (6, some (true, .os 205 x2.1.length)), (7, some (true, .int .i64 x2.2))], [(204, some (.row 5 1 (v10.map (V.int .u8)))), (205, some (.row 5 1 (x2.1.map (V.int .u8))))]⟩) (fun x2 => ⟨[(6, some (true, .os 205 x2.1.length))], [(205, some (.row 5 1 (x2.1.map (V.int .u8))))]⟩) ⟨by first | omega | assumption | (simp only [List.length_append, List.length_cons, List.length_nil, List.length_replicate, put_len] at * <;> omega) | (exact DecI.start (by assumption)) | (exact DecI.step (by assumption) (by assumption)) | (exact dec_mu (by assumption) (by assumption)) | ((have hq := DecI.len (by assumption); first | omega | (simp only [List.length_append, List.length_cons, List.length_nil] at *; omega))) | ((rw [wr64 (by omega)]; simp only [List.length_append, List.length_cons, List.length_nil] at *; omega)), by first | omega | assumption | (simp only [List.length_append, List.length_cons, List.length_nil, List.length_replicate, put_len] at * <;> omega) | (exact DecI.start (by assumption)) | (exact DecI.step (by assumption) (by assumption)) | (exact dec_mu (by assumption) (by assumption)) | ((have hq := DecI.len (by assumption); first | omega | (simp only [List.length_append, List.length_cons, List.length_nil] at *; omega))) | ((rw [wr64 (by omega)]; simp only [List.length_append, List.length_cons, List.length_nil] at *; omega)), by first | omega | assumption | (simp only [List.length_append, List.length_cons, List.length_nil, List.length_replicate, put_len] at * <;> omega) | (exact DecI.start (by assumption)) | (exact DecI.step (by assumption) (by assumption)) | (exact dec_mu (by assumption) (by assumption)) | ((have hq := DecI.len (by assumption); first | omega | (simp only [List.length_append, List.length_cons, List.length_nil] at *; omega))) | ((rw [wr64 (by omega)]; simp only [List.length_append, List.length_cons, List.length_nil] at *; omega))⟩ (by first | omega | assumption | (simp only [List.length_append, List.length_cons, List.length_nil, List.length_replicate, put_len] at * <;> omega) | (exact DecI.start (by assumption)) | (exact DecI.step (by assumption) (by assumption)) | (exact dec_mu (by assumption) (by assumption)) | ((have hq := DecI.len (by assumption); first | omega | (simp only [List.length_append, List.length_cons, List.length_nil] at *; omega))) | ((rw [wr64 (by omega)]; simp only [List.length_append, List.length_cons, List.length_nil] at *; omega))) (sub_of [] ⟨rfl, rfl, rfl, trivial⟩ ⟨rfl, rfl, trivial⟩ rfl) ?_ ?_
        · intro x2 i17
          obtain ⟨e18, e19, e20⟩ := i17
          try dsimp only at *
          refine run_seq ?_
          refine run_region (q_move .n (.t rfl) rfl <|
              q_b2s (xs := x2.1) .n (.ow (.t rfl) rfl (take_all (by simp only [len_map, put_len])) (by simp only [len_map, put_len])) bs_91_9 rfl <|
              q_assign .n (.t rfl) rfl <|
              Lex.nil) ?_
          exact run_ret [] (.cons (.t rfl rfl) .nil) rfl trivial rfl
        · intro rec2 k2 hk14 x2 i15
          obtain ⟨e21, e22, e23⟩ := i15
          try dsimp only at *
          refine run_seq ?_
          refine run_seq ?_
          refine run_region (q_move .n (.t rfl) rfl <|
              q_int .n (.t rfl) (.c rfl) rfl rfl <|
              Lex.nil) ?_
          refine run_cond (.t rfl) rfl (fun h16 => ?_) (fun h16 => ?_)
          · try simp only [Bool.and_eq_true, Bool.or_eq_true, Bool.not_eq_true', Bool.and_eq_false_iff, Bool.or_eq_false_iff, Bool.not_eq_false', decide_eq_true_eq, decide_eq_false_iff_not, beq_iff_eq, bne_iff_ne, beq_eq_false_iff_ne, bne_eq_false_iff_eq, Bool.true_and, ne_eq, Decidable.not_not, Int.not_lt, Int.not_le, Nat.not_lt, Nat.not_le, strB_nil, strB_nil', strB_nnil, strB_nnil'] at h16
            refine run_skip ?_
            refine run_seq ?_
            refine run_block ?_
            refine run_region (q_move .n (.t rfl) rfl <|
                q_move .n (.t rfl) rfl <|
                q_move .n (.t rfl) rfl <|
                q_idx_ow .n (.t rfl) (.t rfl) sl_91 (fun _ => by first | omega | assumption | (simp only [List.length_append, List.length_cons, List.length_nil, List.length_replicate, put_len] at * <;> omega) | (exact DecI.start (by assumption)) | (exact DecI.step (by assumption) (by assumption)) | (exact dec_mu (by assumption) (by assumption)) | ((have hq := DecI.len (by assumption); first | omega | (simp only [List.length_append, List.length_cons, List.length_nil] at *; omega))) | ((rw [wr64 (by omega)]; simp only [List.length_append, List.length_cons, List.length_nil] at *; omega))) rfl <|
                q_ld1_row .n (.t rfl) rfl (fun _ => by first | omega | assumption | (simp only [List.length_append, List.length_cons, List.length_nil, List.length_replicate, put_len] at * <;> omega) | (exact DecI.start (by assumption)) | (exact DecI.step (by assumption) (by assumption)) | (exact dec_mu (by assumption) (by assumption)) | ((have hq := DecI.len (by assumption); first | omega | (simp only [List.length_append, List.length_cons, List.length_nil] at *; omega))) | ((rw [wr64 (by omega)]; simp only [List.length_append, List.length_cons, List.length_nil] at *; omega))) rfl rfl rfl ic_5 rfl <|
                q_bslicem ([at' v10 x2.2] : List Int) (f := V.int .u8) (l := 206) .n rfl rfl (.cons (.t rfl) .nil) rfl si_91 zv_5 rfl rfl rfl <|
                q_appm (xs := x2.1) (ys := ([at' v10 x2.2] : List Int)) (f := V.int .u8) (l := 207) .n rfl (.ow (.t rfl) rfl (take_all (by simp only [len_map, put_len])) (by simp only [len_map, put_len])) (.ow (.t rfl) rfl (take_all (by simp only [len_map, put_len])) (by simp only [len_map, put_len])) si_91 zv_5 rfl (by first | omega | assumption | (simp only [List.length_append, List.length_cons, List.length_nil, List.length_replicate, put_len] at * <;> omega) | (exact DecI.start (by assumption)) | (exact DecI.step (by assumption) (by assumption)) | (exact dec_mu (by assumption) (by assumption)) | ((have hq := DecI.len (by assumption); first | omega | (simp only [List.length_append, List.length_cons, List.length_nil] at *; omega))) | ((rw [wr64 (by omega)]; simp only [List.length_append, List.length_cons, List.length_nil] at *; omega))) rfl rfl <|
                q_assign .n (.t rfl) rfl <|
                Lex.nil) ?_
            refine run_endB ?_
            refine run_region (q_move .n (.t rfl) rfl <|
                q_sub .n (.t rfl) (.c rfl) (fun _ => by first | omega | assumption | (simp only [List.length_append, List.length_cons, List.length_nil, List.length_replicate, put_len] at * <;> omega) | (exact DecI.start (by assumption)) | (exact DecI.step (by assumption) (by assumption)) | (exact dec_mu (by assumption) (by assumption)) | ((have hq := DecI.len (by assumption); first | omega | (simp only [List.length_append, List.length_cons, List.length_nil] at *; omega))) | ((rw [wr64 (by omega)]; simp only [List.length_append, List.length_cons, List.length_nil] at *; omega))) rfl <|
                q_assign .n (.t rfl) rfl <|
                Lex.nil) ?_
            exact run_again (x2.1 ++ ([at' v10 x2.2] : List Int), x2.2 - 1) ⟨by first | omega | assumption | (simp only [List.length_append, List.length_cons, List.length_nil, List.length_replicate, put_len] at * <;> omega) | (exact DecI.start (by assumption)) | (exact DecI.step (by assumption) (by assumption)) | (exact dec_mu (by assumption) (by assumption)) | ((have hq := DecI.len (by assumption); first | omega | (simp only [List.length_append, List.length_cons, List.length_nil] at *; omega))) | ((rw [wr64 (by omega)]; simp only [List.length_append, List.length_cons, List.length_nil] at *; omega)), by first | omega | assumption | (simp only [List.length_append, List.length_cons, List.length_nil, List.length_replicate, put_len] at * <;> omega) | (exact DecI.start (by assumption)) | (exact DecI.step (by assumption) (by assumption)) | (exact dec_mu (by assumption) (by assumption)) | ((have hq := DecI.len (by assumption); first | omega | (simp only [List.length_append, List.length_cons, List.length_nil] at *; omega))) | ((rw [wr64 (by omega)]; simp only [List.length_append, List.length_cons, List.length_nil] at *; omega)), by first | omega | assumption | (simp only [List.length_append, List.length_cons, List.length_nil, List.length_replicate, put_len] at * <;> omega) | (exact DecI.start (by assumption)) | (exact DecI.step (by assumption) (by assumption)) | (exact dec_mu (by assumption) (by assumption)) | ((have hq := DecI.len (by assumption); first | omega | (simp only [List.length_append, List.length_cons, List.length_nil] at *; omega))) | ((rw [wr64 (by omega)]; simp only [List.length_append, List.length_cons, List.length_nil] at *; omega))⟩ (by first | omega | assumption | (simp only [List.length_append, List.length_cons, List.length_nil, List.length_replicate, put_len] at * <;> omega) | (exact DecI.start (by assumption)) | (exact DecI.step (by assumption) (by assumption)) | (exact dec_mu (by assumption) (by assumption)) | ((have hq := DecI.len (by assumption); first | omega | (simp only [List.length_append, List.length_cons, List.length_nil] at *; omega))) | ((rw [wr64 (by omega)]; simp only [List.length_append, List.length_cons, List.length_nil] at *; omega))) (sub_of [(205, 207)] ⟨rfl, rfl, rfl, trivial⟩ ⟨rfl, rfl, trivial⟩ rfl)
          · try simp only [Bool.and_eq_true, Bool.or_eq_true, Bool.not_eq_true', Bool.and_eq_false_iff, Bool.or_eq_false_iff, Bool.not_eq_false', decide_eq_true_eq, decide_eq_false_iff_not, beq_iff_eq, bne_iff_ne, beq_eq_false_iff_ne, bne_eq_false_iff_eq, Bool.true_and, ne_eq, Decidable.not_not, Int.not_lt, Int.not_le, Nat.not_lt, Nat.not_le, strB_nil, strB_nil', strB_nnil, strB_nnil'] at h16
            refine run_exit rfl ?_
            exact run_cont hk14 (x2.1, x2.2) ⟨by first | omega | assumption | (simp only [List.length_append, List.length_cons, List.length_nil, List.length_replicate, put_len] at * <;> omega) | (exact DecI.start (by assumption)) | (exact DecI.step (by assumption) (by assumption)) | (exact dec_mu (by assumption) (by assumption)) | ((have hq := DecI.len (by assumption); first | omega | (simp only [List.length_append, List.length_cons, List.length_nil] at *; omega))) | ((rw [wr64 (by omega)]; simp only [List.length_append, List.length_cons, List.length_nil] at *; omega)), by first | omega | assumption | (simp only [List.length_append, List.length_cons, List.length_nil, List.length_replicate, put_len] at * <;> omega) | (exact DecI.start (by assumption)) | (exact DecI.step (by assumption) (by assumption)) | (exact dec_mu (by assumption) (by assumption)) | ((have hq := DecI.len (by assumption); first | omega | (simp only [List.length_append, List.length_cons, List.length_nil] at *; omega))) | ((rw [wr64 (by omega)]; simp only [List.length_append, List.length_cons, List.length_nil] at *; omega)), by first | omega | assumption | (simp only [List.length_append, List.length_cons, List.length_nil, List.length_replicate, put_len] at * <;> omega) | (exact DecI.start (by assumption)) | (exact DecI.step (by assumption) (by assumption)) | (exact dec_mu (by assumption) (by assumption)) | ((have hq := DecI.len (by assumption); first | omega | (simp only [List.length_append, List.length_cons, List.length_nil] at *; omega))) | ((rw [wr64 (by omega)]; simp only [List.length_append, List.length_cons, List.length_nil] at *; omega))⟩ (sub_of [] ⟨rfl, trivial⟩ ⟨rfl, trivial⟩ rfl)
      · refine run_cond (.t rfl) rfl (fun h13 => ?_) (fun h13 => ?_)
        · try simp only [Bool.and_eq_true, Bool.or_eq_true, Bool.not_eq_true', Bool.and_eq_false_iff, Bool.or_eq_false_iff, Bool.not_eq_false', decide_eq_true_eq, decide_eq_false_iff_not, beq_iff_eq, bne_iff_ne, beq_eq_false_iff_ne, bne_eq_false_iff_eq, Bool.true_and, ne_eq, Decidable.not_not, Int.not_lt, Int.not_le, Nat.not_lt, Nat.not_le, strB_nil, strB_nil', strB_nnil, strB_nnil'] at h13
          refine run_region (q_move .n (.t rfl) rfl <|
              q_bslicem ([45] : List Int) (f := V.int .u8) (l := 203) .n rfl rfl (.cons (.c rfl) .nil) rfl si_91 zv_5 rfl rfl rfl <|
              q_appm (xs := x1.1) (ys := ([45] : List Int)) (f := V.int .u8) (l := 204) .n rfl (.ow (.t rfl) rfl (take_all (by simp only [len_map, put_len])) (by simp only [len_map, put_len])) (.ow (.t rfl) rfl (take_all (by simp only [len_map, put_len])) (by simp only [len_map, put_len])) si_91 zv_5 rfl (by first | omega | assumption | (simp only [List.length_append, List.length_cons, List.length_nil, List.length_replicate, put_len] at * <;> omega) | (exact DecI.start (by assumption)) | (exact DecI.step (by assumption) (by assumption)) | (exact dec_mu (by assumption) (by assumption)) | ((have hq := DecI.len (by assumption); first | omega | (simp only [List.length_append, List.length_cons, List.length_nil] at *; omega))) | ((rw [wr64 (by omega)]; simp only [List.length_append, List.length_cons, List.length_nil] at *; omega))) rfl rfl <|
              q_assign .n (.t rfl) rfl <|
              Lex.nil) ?_
          exact run_cont hj12 (x1.1 ++ ([45] : List Int)) (by first | omega | assumption | (simp only [List.length_append, List.length_cons, List.length_nil, List.length_replicate, put_len] at * <;> omega) | (exact DecI.start (by assumption)) | (exact DecI.step (by assumption) (by assumption)) | (exact dec_mu (by assumption) (by assumption)) | ((have hq := DecI.len (by assumption); first | omega | (simp only [List.length_append, List.length_cons, List.length_nil] at *; omega))) | ((rw [wr64 (by omega)]; simp only [List.length_append, List.length_cons, List.length_nil] at *; omega))) (sub_of [] ⟨rfl, trivial⟩ ⟨rfl, trivial⟩ rfl)
        · try simp only [Bool.and_eq_true, Bool.or_eq_true, Bool.not_eq_true', Bool.and_eq_false_iff, Bool.or_eq_false_iff, Bool.not_eq_false', decide_eq_true_eq, decide_eq_false_iff_not, beq_iff_eq, bne_iff_ne, beq_eq_false_iff_ne, bne_eq_false_iff_eq, Bool.true_and, ne_eq, Decidable.not_not, Int.not_lt, Int.not_le, Nat.not_lt, Nat.not_le, strB_nil, strB_nil', strB_nnil, strB_nnil'] at h13
          refine run_skip ?_
          exact run_cont hj12 x1.1 (by first | omega | assumption | (simp only [List.length_append, List.length_cons, List.length_nil, List.length_replicate, put_len] at * <;> omega) | (exact DecI.start (by assumption)) | (exact DecI.step (by assumption) (by assumption)) | (exact dec_mu (by assumption) (by assumption)) | ((have hq := DecI.len (by assumption); first | omega | (simp only [List.length_append, List.length_cons, List.length_nil] at *; omega))) | ((rw [wr64 (by omega)]; simp only [List.length_append, List.length_cons, List.length_nil] at *; omega))) (sub_of [(204, 200)] ⟨rfl, trivial⟩ ⟨rfl, trivial⟩ rfl)
    · intro rec1 k1 hk2 x1 i3
      have e27 := i3
      try dsimp only at *
      refine run_seq ?_
      refine run_seq ?_
      refine run_region (q_move .n (.t rfl) rfl <|
          q_int .n (.t rfl) (.c rfl) rfl rfl <|
          Lex.nil) ?_
      refine run_cond (.t rfl) rfl (fun h4 => ?_) (fun h4 => ?_)
      · try simp only [Bool.and_eq_true, Bool.or_eq_true, Bool.not_eq_true', Bool.and_eq_false_iff, Bool.or_eq_false_iff, Bool.not_eq_false', decide_eq_true_eq, decide_eq_false_iff_not, beq_iff_eq, bne_iff_ne, beq_eq_false_iff_ne, bne_eq_false_iff_eq, Bool.true_and, ne_eq, Decidable.not_not, Int.not_lt, Int.not_le, Nat.not_lt, Nat.not_le, strB_nil, strB_nil', strB_nnil, strB_nnil'] at h4
        refine run_skip ?_
        refine run_seq ?_
        refine run_block ?_
        refine run_seq ?_
        refine run_region (q_move .n (.t rfl) rfl <|
            q_rem .n (.t rfl) (.c rfl) (fun _ => by decide) rfl <|
            q_assign .n (.t rfl) rfl <|
            Lex.nil) ?_
        refine run_seq ?_
        refine run_seq ?_
        refine run_region (q_move .n (.t rfl) rfl <|
            q_int .n (.t rfl) (.c rfl) rfl rfl <|
            Lex.nil) ?_
        refine run_join _ _ rfl (fun v5 : Int => True) (fun v5 => ⟨[(0, some (true, .int .i64 n_)), (3, some (true, .os 200 x1.1.length)), (4, some (true, .int .i64 x1.2)), (5, some (true, .int .i64 v5))], [(200, some (.row 5 1 (x1.1.map (V.int .u8))))]⟩) (fun v5 _ => ?_) (fun j6 hj7 => ?_)
        · refine run_region (q_move .n (.t rfl) rfl <|
              q_move .n (.t rfl) rfl <|
              q_int .n (.c rfl) (.t rfl) rfl rfl <|
              q_conv .n (.t rfl) cv_2_5 rfl <|
              q_bslicem ([IntKind.wrap .u8 (IntKind.wrap .i64 (48 + v5))] : List Int) (f := V.int .u8) (l := 201) .n rfl rfl (.cons (.t rfl) .nil) rfl si_91 zv_5 rfl rfl rfl <|
              q_appm (xs := x1.1) (ys := ([IntKind.wrap .u8 (IntKind.wrap .i64 (48 + v5))] : List Int)) (f := V.int .u8) (l := 202) .n rfl (.ow (.t rfl) rfl (take_all (by simp only [len_map, put_len])) (by simp only [len_map, put_len])) (.ow (.t rfl) rfl (take_all (by simp only [len_map, put_len])) (by simp only [len_map, put_len])) si_91 zv_5 rfl (by first | omega | assumption | (simp only [List.length_append, List.length_cons, List.length_nil, List.length_replicate, put_len] at * <;> omega) | (exact DecI.start (by assumption)) | (exact DecI.step (by assumption) (by assumption)) | (exact dec_mu (by assumption) (by assumption)) | ((have hq := DecI.len (by assumption); first | omega | (simp only [List.length_append, List.length_cons, List.length_nil] at *; omega))) | ((rw [wr64 (by omega)]; simp only [List.length_append, List.length_cons, List.length_nil] at *; omega))) rfl rfl <|
              q_assign .n (.t rfl) rfl <|
              Lex.nil) ?_
          refine run_endB ?_
          refine run_region (q_move .n (.t rfl) rfl <|
              q_quo .n (.t rfl) (.c rfl) (fun _ => by decide) rfl <|
              q_assign .n (.t rfl) rfl <|
              Lex.nil) ?_
          exact run_again (x1.1 ++ ([IntKind.wrap .u8 (IntKind.wrap .i64 (48 + v5))] : List Int), IntKind.wrap .i64 (Int.tdiv x1.2 10)) (by first | omega | assumption | (simp only [List.length_append, List.length_cons, List.length_nil, List.length_replicate, put_len] at * <;> omega) | (exact DecI.start (by assumption)) | (exact DecI.step (by assumption) (by assumption)) | (exact dec_mu (by assumption) (by assumption)) | ((have hq := DecI.len (by assumption); first | omega | (simp only [List.length_append, List.length_cons, List.length_nil] at *; omega))) | ((rw [wr64 (by omega)]; simp only [List.length_append, List.length_cons, List.length_nil] at *; omega))) (by first | omega | assumption | (simp only [List.length_append, List.length_cons, List.length_nil, List.length_replicate, put_len] at * <;> omega) | (exact DecI.start (by assumption)) | (exact DecI.step (by assumption) (by assumption)) | (exact dec_mu (by assumption) (by assumption)) | ((have hq := DecI.len (by assumption); first | omega | (simp only [List.length_append, List.length_cons, List.length_nil] at *; omega))) | ((rw [wr64 (by omega)]; simp only [List.length_append, List.length_cons, List.length_nil] at *; omega))) (sub_of [(200, 202)] ⟨rfl, rfl, rfl, trivial⟩ ⟨rfl, trivial⟩ rfl)
        · refine run_cond (.t rfl) rfl (fun h8 => ?_) (fun h8 => ?_)
          · try simp only [Bool.and_eq_true, Bool.or_eq_true, Bool.not_eq_true', Bool.and_eq_false_iff, Bool.or_eq_false_iff, Bool.not_eq_false', decide_eq_true_eq, decide_eq_false_iff_not, beq_iff_eq, bne_iff_ne, beq_eq_false_iff_ne, bne_eq_false_iff_eq, Bool.true_and, ne_eq, Decidable.not_not, Int.not_lt, Int.not_le, Nat.not_lt, Nat.not_le, strB_nil, strB_nil', strB_nnil, strB_nnil'] at h8
            refine run_region (q_move .n (.t rfl) rfl <|
                q_neg .n (.t rfl) rfl <|
                q_assign .n (.t rfl) rfl <|
                Lex.nil) ?_
            exact run_cont hj7 (IntKind.wrap .i64 (0 - (Int.tmod x1.2 10))) trivial (sub_of [] ⟨rfl, rfl, rfl, rfl, trivial⟩ ⟨rfl, trivial⟩ rfl)
          · try simp only [Bool.and_eq_true, Bool.or_eq_true, Bool.not_eq_true', Bool.and_eq_false_iff, Bool.or_eq_false_iff, Bool.not_eq_false', decide_eq_true_eq, decide_eq_false_iff_not, beq_iff_eq, bne_iff_ne, beq_eq_false_iff_ne, bne_eq_false_iff_eq, Bool.true_and, ne_eq, Decidable.not_not, Int.not_lt, Int.not_le, Nat.not_lt, Nat.not_le, strB_nil, strB_nil', strB_nnil, strB_nnil'] at h8
            refine run_skip ?_
            exact run_cont hj7 (Int.tmod x1.2 10) trivial (sub_of [] ⟨rfl, rfl, rfl, rfl, trivial⟩ ⟨rfl, trivial⟩ rfl)
      · try simp only [Bool.and_eq_true, Bool.or_eq_true, Bool.not_eq_true', Bool.and_eq_false_iff, Bool.or_eq_false_iff, Bool.not_eq_false', decide_eq_true_eq, decide_eq_false_iff_not, beq_iff_eq, bne_iff_ne, beq_eq_false_iff_ne, bne_eq_false_iff_eq, Bool.true_and, ne_eq, Decidable.not_not, Int.not_lt, Int.not_le, Nat.not_lt, Nat.not_le, strB_nil, strB_nil', strB_nnil, strB_nnil'] at h4
        refine run_exit rfl ?_
        exact run_cont hk2 (x1.1, x1.2) (by first | omega | assumption | (simp only [List.length_append, List.length_cons, List.length_nil, List.length_replicate, put_len] at * <;> omega) | (exact DecI.start (by assumption)) | (exact DecI.step (by assumption) (by assumption)) | (exact dec_mu (by assumption) (by assumption)) | ((have hq := DecI.len (by assumption); first | omega | (simp only [List.length_append, List.length_cons, List.length_nil] at *; omega))) | ((rw [wr64 (by omega)]; simp only [List.length_append, List.length_cons, List.length_nil] at *; omega))) (sub_of [] ⟨rfl, rfl, trivial⟩ ⟨rfl, trivial⟩ rfl)

/-! ### spec_VersionText -/
set_option maxHeartbeats 4000000 in
theorem c_spec_VersionText (v : gVersion) (hp1 : v.Memo.length ≤ 1048576) : Con Tryd.prog 21 [.st [.int .i64 v.Number, .int .i64 v.Parent, .str v.Memo, .sl 2 (v.State.map gSetting.v)]] [] (.str (m_spec_VersionText v)) ([]) := by
  refine con_intro (out := fun r : (List UInt8) => ((.str r : V), ([] : List (Nat × Option O)))) (r := (m_spec_VersionText v)) Tryd.func21 rfl Tryd.ntmps21 rfl ?_
  refine run_factS (t := 0) 3 rfl rfl fun hl => ?_
  have l1 := hl; clear hl; simp only [List.length_map] at l1
  refine run_seq ?_
  refine run_region (q_box (l := 200) .n rfl (.t rfl) rfl rfl rfl rfl <|
      q_assign .n (.c rfl) rfl <|
      Lex.nil) ?_
  refine run_seq ?_
  refine run_seq ?_
  refine run_region (q_fld_ow .n (.t rfl) fo_50_0 rfl <|
      q_ld1_ow .n (.t rfl) rfl (.inr rfl) (fun _ => rfl) rfl ic_2 rfl <|
      q_call0 (full := false) .n .f en_40 (.cons (.t rfl) (.cons (.c rfl) (.cons (.c rfl) .nil))) (.cons (.b (.a (.same rfl))) (.cons (.b (.a (.same rfl))) (.cons (.b (.a (.same rfl))) .nil))) (fun hg => c_spec_l00In v.Number 1 32) rfl (fun h => Bool.noConfusion h) rfl <|
      q_not .n (.t rfl) rfl <|
      q_move .n (.t rfl) rfl <|
      q_fld_ow (.f rfl rfl) (.t rfl) fo_50_1 rfl <|
      q_ld1_ow (.f rfl rfl) (.u rfl id) rfl (.inr rfl) (fun _ => rfl) rfl ic_2 rfl <|
      q_fld_ow (.f rfl rfl) (.t rfl) fo_50_0 rfl <|
      q_ld1_ow (.f rfl rfl) (.u rfl id) rfl (.inr rfl) (fun _ => rfl) rfl ic_2 rfl <|
      q_int (.f rfl rfl) (.u rfl id) (.c rfl) rfl rfl <|
      q_call0 (full := false) (.f rfl rfl) .f en_40 (.cons (.u rfl id) (.cons (.c rfl) (.cons (.u rfl id) .nil))) (.cons (.b (.a (.same rfl))) (.cons (.b (.a (.same rfl))) (.cons (.b (.a (.same rfl))) .nil))) (fun hg => c_spec_l00In v.Parent 0 (IntKind.wrap .i64 (v.Number - 1))) rfl (fun h => Bool.noConfusion h) rfl <|
      q_not (.f rfl rfl) (.u rfl id) rfl <|
      q_or .n (.t rfl) (.u rfl id) rfl <|
      q_move .n (.t rfl) rfl <|
      q_fld_ow (.f rfl rfl) (.t rfl) fo_50_2 rfl <|
      q_ld1_ow (.f rfl rfl) (.u rfl id) rfl (.inr rfl) (fun _ => rfl) rfl ic_9 rfl <|
      q_call0 (full := false) (.f rfl rfl) .f en_41 (.cons (.u rfl id) .nil) (.cons (.b (.a (.same rfl))) .nil) (fun hg => c_spec_l27Memo v.Memo (by simp only [Bool.and_eq_true, Bool.or_eq_true, Bool.not_eq_true', Bool.and_eq_false_iff, Bool.or_eq_false_iff, Bool.not_eq_false', decide_eq_true_eq, decide_eq_false_iff_not, beq_iff_eq, bne_iff_ne, beq_eq_false_iff_ne, bne_eq_false_iff_eq, Bool.true_and, ne_eq, Decidable.not_not, Int.not_lt, Int.not_le, Nat.not_lt, Nat.not_le, strB_nil, strB_nil', strB_nnil, strB_nnil'] at hg; first | omega | assumption | (simp only [List.length_append, List.length_cons, List.length_nil, List.length_replicate, put_len] at * <;> omega) | ((have hw := wr64_le (n := v.Number - 1); omega)) | ((have hw := wr64_le (n := v.Number - 1); have h1_ := dec_len (n := v.Number) (by omega); have h2_ := dec_len (n := v.Parent) (by omega); simp <;> omega)) | ((have hS : StIn v.State := (by assumption); have hq := at_all (i := x1.2) hS.2 (by omega); have hl := hS.1; first | omega | (have hd := dec_len (n := (at' v.State x1.2).Value) (by omega); simp <;> omega))) | ((have hS : StIn v.State := (by assumption); have hl := hS.1; first | omega | (simp <;> omega))))) rfl (fun h => Bool.noConfusion h) rfl <|
      q_not (.f rfl rfl) (.u rfl id) rfl <|
      q_or .n (.t rfl) (.u rfl id) rfl <|
      q_move .n (.t rfl) rfl <|
      q_fld_ow (.f rfl rfl) (.t rfl) fo_50_3 rfl <|
      q_ld1_ow (.f rfl rfl) (.u rfl id) rfl (.inr rfl) (fun _ => rfl) rfl ic_48 rfl <|
      q_call0 (full := false) (.f rfl rfl) .f en_42 (.cons (.u rfl id) .nil) (.cons (.b (.a (.same rfl))) .nil) (fun hg => c_spec_l27State v.State) rfl (fun h => Bool.noConfusion h) rfl <|
      q_not (.f rfl rfl) (.u rfl id) rfl <|
      q_or .n (.t rfl) (.u rfl id) rfl <|
      Lex.nil) ?_
  refine run_cond (.t rfl) rfl (fun h2 => ?_) (fun h2 => ?_)
  · try simp only [Bool.and_eq_true, Bool.or_eq_true, Bool.not_eq_true', Bool.and_eq_false_iff, Bool.or_eq_false_iff, Bool.not_eq_false', decide_eq_true_eq, decide_eq_false_iff_not, beq_iff_eq, bne_iff_ne, beq_eq_false_iff_ne, bne_eq_false_iff_eq, Bool.true_and, ne_eq, Decidable.not_not, Int.not_lt, Int.not_le, Nat.not_lt, Nat.not_le, strB_nil, strB_nil', strB_nnil, strB_nnil'] at h2
    try have hf0h2 := l00In_imp h2
    try have hf1h2 := l00In_imp h2.1
    try have hf2h2 := l00In_imp h2.2
    try have hf3h2 := l00In_imp h2.1.1
    try have hf4h2 := l00In_imp h2.1.2
    try have hf5h2 := l00In_imp h2.2.1
    try have hf6h2 := l00In_imp h2.2.2
    try have hf7h2 := l00In_imp h2.1.1.1
    try have hf8h2 := l00In_imp h2.1.1.2
    try have hf9h2 := state_in h2
    try have hf10h2 := state_in h2.1
    try have hf11h2 := state_in h2.2
    try have hf12h2 := state_in h2.1.1
    try have hf13h2 := state_in h2.1.2
    try have hf14h2 := state_in h2.2.1
    try have hf15h2 := state_in h2.2.2
    try have hf16h2 := state_in h2.1.1.1
    try have hf17h2 := state_in h2.1.1.2
    try have hf18h2 := memo_len h2
    try have hf19h2 := memo_len h2.1
    try have hf20h2 := memo_len h2.2
    try have hf21h2 := memo_len h2.1.1
    try have hf22h2 := memo_len h2.1.2
    try have hf23h2 := memo_len h2.2.1
    try have hf24h2 := memo_len h2.2.2
    try have hf25h2 := memo_len h2.1.1.1
    try have hf26h2 := memo_len h2.1.1.2
    refine run_seq ?_
    refine run_region (q_assign .n (.c rfl) rfl <|
        Lex.nil) ?_
    exact run_ret [] (.cons (.t rfl rfl) .nil) rfl trivial rfl
  · try simp only [Bool.and_eq_true, Bool.or_eq_true, Bool.not_eq_true', Bool.and_eq_false_iff, Bool.or_eq_false_iff, Bool.not_eq_false', decide_eq_true_eq, decide_eq_false_iff_not, beq_iff_eq, bne_iff_ne, beq_eq_false_iff_ne, bne_eq_false_iff_eq, Bool.true_and, ne_eq, Decidable.not_not, Int.not_lt, Int.not_le, Nat.not_lt, Nat.not_le, strB_nil, strB_nil', strB_nnil, strB_nnil'] at h2
    try have hf0h2 := l00In_imp h2
    try have hf1h2 := l00In_imp h2.1
    try have hf2h2 := l00In_imp h2.2
    try have hf3h2 := l00In_imp h2.1.1
    try have hf4h2 := l00In_imp h2.1.2
    try have hf5h2 := l00In_imp h2.2.1
    try have hf6h2 := l00In_imp h2.2.2
    try have hf7h2 := l00In_imp h2.1.1.1
    try have hf8h2 := l00In_imp h2.1.1.2
    try have hf9h2 := state_in h2
    try have hf10h2 := state_in h2.1
    try have hf11h2 := state_in h2.2
    try have hf12h2 := state_in h2.1.1
    try have hf13h2 := state_in h2.1.2
    try have hf14h2 := state_in h2.2.1
    try have hf15h2 := state_in h2.2.2
    try have hf16h2 := state_in h2.1.1.1
    try have hf17h2 := state_in h2.1.1.2
    try have hf18h2 := memo_len h2
    try have hf19h2 := memo_len h2.1
    try have hf20h2 := memo_len h2.2
    try have hf21h2 := memo_len h2.1.1
    try have hf22h2 := memo_len h2.1.2
    try have hf23h2 := memo_len h2.2.1
    try have hf24h2 := memo_len h2.2.2
    try have hf25h2 := memo_len h2.1.1.1
    try have hf26h2 := memo_len h2.1.1.2
    refine run_skip ?_
    refine run_seq ?_
    refine run_draw fmo (q_fld_ow .n (.t rfl) fo_50_0 rfl <|
        q_ld1_ow .n (.t rfl) rfl (.inr rfl) (fun _ => rfl) rfl ic_2 rfl <|
        q_call0 (full := false) .n .f en_43 (.cons (.t rfl) .nil) (.cons (.b (.a (.same rfl))) .nil) (fun hg => c_spec_l01Dec v.Number (by first | omega | assumption | (simp only [List.length_append, List.length_cons, List.length_nil, List.length_replicate, put_len] at * <;> omega) | ((have hw := wr64_le (n := v.Number - 1); omega)) | ((have hw := wr64_le (n := v.Number - 1); have h1_ := dec_len (n := v.Number) (by omega); have h2_ := dec_len (n := v.Parent) (by omega); simp <;> omega)) | ((have hS : StIn v.State := (by assumption); have hq := at_all (i := x1.2) hS.2 (by omega); have hl := hS.1; first | omega | (have hd := dec_len (n := (at' v.State x1.2).Value) (by omega); simp <;> omega))) | ((have hS : StIn v.State := (by assumption); have hl := hS.1; first | omega | (simp <;> omega))))) rfl (fun h => Bool.noConfusion h) rfl <|
        q_strcat .n (.t rfl) (.c rfl) (fun _ => by first | omega | assumption | (simp only [List.length_append, List.length_cons, List.length_nil, List.length_replicate, put_len] at * <;> omega) | ((have hw := wr64_le (n := v.Number - 1); omega)) | ((have hw := wr64_le (n := v.Number - 1); have h1_ := dec_len (n := v.Number) (by omega); have h2_ := dec_len (n := v.Parent) (by omega); simp <;> omega)) | ((have hS : StIn v.State := (by assumption); have hq := at_all (i := x1.2) hS.2 (by omega); have hl := hS.1; first | omega | (have hd := dec_len (n := (at' v.State x1.2).Value) (by omega); simp <;> omega))) | ((have hS : StIn v.State := (by assumption); have hl := hS.1; first | omega | (simp <;> omega)))) rfl <|
        q_fld_ow .n (.t rfl) fo_50_1 rfl <|
        q_ld1_ow .n (.t rfl) rfl (.inr rfl) (fun _ => rfl) rfl ic_2 rfl <|
        q_call0 (full := false) .n .f en_43 (.cons (.t rfl) .nil) (.cons (.b (.a (.same rfl))) .nil) (fun hg => c_spec_l01Dec v.Parent (by first | omega | assumption | (simp only [List.length_append, List.length_cons, List.length_nil, List.length_replicate, put_len] at * <;> omega) | ((have hw := wr64_le (n := v.Number - 1); omega)) | ((have hw := wr64_le (n := v.Number - 1); have h1_ := dec_len (n := v.Number) (by omega); have h2_ := dec_len (n := v.Parent) (by omega); simp <;> omega)) | ((have hS : StIn v.State := (by assumption); have hq := at_all (i := x1.2) hS.2 (by omega); have hl := hS.1; first | omega | (have hd := dec_len (n := (at' v.State x1.2).Value) (by omega); simp <;> omega))) | ((have hS : StIn v.State := (by assumption); have hl := hS.1; first | omega | (simp <;> omega))))) rfl (fun h => Bool.noConfusion h) rfl <|
        q_strcat .n (.t rfl) (.t rfl) (fun _ => by first | omega | assumption | (simp only [List.length_append, List.length_cons, List.length_nil, List.length_replicate, put_len] at * <;> omega) | ((have hw := wr64_le (n := v.Number - 1); omega)) | ((have hw := wr64_le (n := v.Number - 1); have h1_ := dec_len (n := v.Number) (by omega); have h2_ := dec_len (n := v.Parent) (by omega); simp <;> omega)) | ((have hS : StIn v.State := (by assumption); have hq := at_all (i := x1.2) hS.2 (by omega); have hl := hS.1; first | omega | (have hd := dec_len (n := (at' v.State x1.2).Value) (by omega); simp <;> omega))) | ((have hS : StIn v.State := (by assumption); have hl := hS.1; first | omega | (simp <;> omega)))) rfl <|
        q_assign .n (.t rfl) rfl <|
        Lex.nil) (by kernel_rfl) ?_
    refine run_seq ?_
    refine run_seq ?_
    refine run_region (q_assign .n (.c rfl) rfl <|
        Lex.nil) ?_
    refine run_block ?_
    refine run_LOOP (m_spec_VersionText_b1 v) _ _ _ rfl (fun (x1 : (List UInt8) × Int) => 0 ≤ x1.2 ∧ x1.2 ≤ (v.State.length : Int) ∧ (x1.1.length : Int) ≤ 100 + 100 * x1.2) (fun x1 => 0 ≤ x1.2 ∧ x1.2 ≤ (v.State.length : Int) ∧ (x1.1.length : Int) ≤ 100 + 100 * x1.2 ∧ (v.State.length : Int) ≤ x1.2) (fun x1 => ((v.State.length : Int) - x1.2 : Int).toNat) (fun x1 => ⟨[(1, some (true, .op 200 0 0 0)), (3, some (true, .str x1.1)), (4, some (true, .int .i64 x1.2))], [(200, some (.box 50 [.int .i64 v.Number, .int .i64 v.Parent, .str v.Memo, .sl 2 (v.State.map gSetting.v)]))]⟩) (fun x1 => ⟨[(1, some (true, .op 200 0 0 0)), (3, some (true, .str x1.1))], [(200, some (.box 50 [.int .i64 v.Number, .int .i64 v.Parent, .str v.Memo, .sl 2 (v.State.map gSetting.v)]))]⟩) ⟨by first | omega | assumption | (simp only [List.length_append, List.length_cons, List.length_nil, List.length_replicate, put_len] at * <;> omega) | ((have hw := wr64_le (n := v.Number - 1); omega)) | ((have hw := wr64_le (n := v.Number - 1); have h1_ := dec_len (n := v.Number) (by omega); have h2_ := dec_len (n := v.Parent) (by omega); simp <;> omega)) | ((have hS : StIn v.State := (by assumption); have hq := at_all (i := x1.2) hS.2 (by omega); have hl := hS.1; first | omega | (have hd := dec_len (n := (at' v.State x1.2).Value) (by omega); simp <;> omega))) | ((have hS : StIn v.State := (by assumption); have hl := hS.1; first | omega | (simp <;> omega))), by first | omega | assumption | (simp only [List.length_append, List.length_cons, List.length_nil, List.length_replicate, put_len] at * <;> omega) | ((have hw := wr64_le (n := v.Number - 1); omega)) | ((have hw := wr64_le (n := v.Number - 1); have h1_ := dec_len (n := v.Number) (by omega); have h2_ := dec_len (n := v.Parent) (by omega); simp <;> omega)) | ((have hS : StIn v.State := (by assumption); have hq := at_all (i := x1.2) hS.2 (by omega); have hl := hS.1; first | omega | (have hd := dec_len (n := (at' v.State x1.2).Value) (by omega); simp <;> omega))) | ((have hS : StIn v.State := (by assumption); have hl := hS.1; first | omega | (simp <;> omega))), by first | omega | assumption | (simp only [List.length_append, List.length_cons, List.length_nil, List.length_replicate, put_len] at * <;> omega) | ((have hw := wr64_le (n := v.Number - 1); omega)) | ((have hw := wr64_le (n := v.Number - 1); have h1_ := dec_len (n := v.Number) (by omega); have h2_ := dec_len (n := v.Parent) (by omega); simp <;> omega)) | ((have hS : StIn v.State := (by assumption); have hq := at_all (i := x1.2) hS.2 (by omega); have hl := hS.1; first | omega | (have hd := dec_len (n := (at' v.State x1.2).Value) (by omega); simp <;> omega))) | ((have hS : StIn v.State := (by assumption); have hl := hS.1; first | omega | (simp <;> omega)))⟩ (by first | omega | assumption | (simp only [List.length_append, List.length_cons, List.length_nil, List.length_replicate, put_len] at * <;> omega) | ((have hw := wr64_le (n := v.Number - 1); omega)) | ((have hw := wr64_le (n := v.Number - 1); have h1_ := dec_len (n := v.Number) (by omega); have h2_ := dec_len (n := v.Parent) (by omega); simp <;> omega)) | ((have hS : StIn v.State := (by assumption); have hq := at_all (i := x1.2) hS.2 (by omega); have hl := hS.1; first | omega | (have hd := dec_len (n := (at' v.State x1.2).Value) (by omega); simp <;> omega))) | ((have hS : StIn v.State := (by assumption); have hl := hS.1; first | omega | (simp <;> omega)))) (sub_of [] ⟨rfl, rfl, rfl, trivial⟩ ⟨rfl, trivial⟩ rfl) ?_ ?_
    · intro x1 i6
      obtain ⟨e8, e9, e10, e11⟩ := i6
      try dsimp only at *
      refine run_seq ?_
      refine run_seq ?_
      refine run_region (q_fld_ow .n (.t rfl) fo_50_2 rfl <|
          q_ld1_ow .n (.t rfl) rfl (.inr rfl) (fun _ => rfl) rfl ic_9 rfl <|
          q_strcmp .n (.t rfl) (.c rfl) rfl rfl <|
          Lex.nil) ?_
      refine run_cond (.t rfl) rfl (fun h7 => ?_) (fun h7 => ?_)
      · try simp only [Bool.and_eq_true, Bool.or_eq_true, Bool.not_eq_true', Bool.and_eq_false_iff, Bool.or_eq_false_iff, Bool.not_eq_false', decide_eq_true_eq, decide_eq_false_iff_not, beq_iff_eq, bne_iff_ne, beq_eq_false_iff_ne, bne_eq_false_iff_eq, Bool.true_and, ne_eq, Decidable.not_not, Int.not_lt, Int.not_le, Nat.not_lt, Nat.not_le, strB_nil, strB_nil', strB_nnil, strB_nnil'] at h7
        refine run_region (q_move .n (.t rfl) rfl <|
            q_fld_ow .n (.t rfl) fo_50_2 rfl <|
            q_ld1_ow .n (.t rfl) rfl (.inr rfl) (fun _ => rfl) rfl ic_9 rfl <|
            q_strcat .n (.c rfl) (.t rfl) (fun _ => by first | omega | assumption | (simp only [List.length_append, List.length_cons, List.length_nil, List.length_replicate, put_len] at * <;> omega) | ((have hw := wr64_le (n := v.Number - 1); omega)) | ((have hw := wr64_le (n := v.Number - 1); have h1_ := dec_len (n := v.Number) (by omega); have h2_ := dec_len (n := v.Parent) (by omega); simp <;> omega)) | ((have hS : StIn v.State := (by assumption); have hq := at_all (i := x1.2) hS.2 (by omega); have hl := hS.1; first | omega | (have hd := dec_len (n := (at' v.State x1.2).Value) (by omega); simp <;> omega))) | ((have hS : StIn v.State := (by assumption); have hl := hS.1; first | omega | (simp <;> omega)))) rfl <|
            q_strcat .n (.t rfl) (.t rfl) (fun _ => by first | omega | assumption | (simp only [List.length_append, List.length_cons, List.length_nil, List.length_replicate, put_len] at * <;> omega) | ((have hw := wr64_le (n := v.Number - 1); omega)) | ((have hw := wr64_le (n := v.Number - 1); have h1_ := dec_len (n := v.Number) (by omega); have h2_ := dec_len (n := v.Parent) (by omega); simp <;> omega)) | ((have hS : StIn v.State := (by assumption); have hq := at_all (i := x1.2) hS.2 (by omega); have hl := hS.1; first | omega | (have hd := dec_len (n := (at' v.State x1.2).Value) (by omega); simp <;> omega))) | ((have hS : StIn v.State := (by assumption); have hl := hS.1; first | omega | (simp <;> omega)))) rfl <|
            q_assign .n (.t rfl) rfl <|
            Lex.nil) ?_
        refine run_seq ?_
        refine run_region (q_move .n (.t rfl) rfl <|
            q_assign .n (.t rfl) rfl <|
            Lex.nil) ?_
        exact run_ret [] (.cons (.t rfl rfl) .nil) rfl trivial rfl
      · try simp only [Bool.and_eq_true, Bool.or_eq_true, Bool.not_eq_true', Bool.and_eq_false_iff, Bool.or_eq_false_iff, Bool.not_eq_false', decide_eq_true_eq, decide_eq_false_iff_not, beq_iff_eq, bne_iff_ne, beq_eq_false_iff_ne, bne_eq_false_iff_eq, Bool.true_and, ne_eq, Decidable.not_not, Int.not_lt, Int.not_le, Nat.not_lt, Nat.not_le, strB_nil, strB_nil', strB_nnil, strB_nnil'] at h7
        refine run_skip ?_
        refine run_seq ?_
        refine run_region (q_move .n (.t rfl) rfl <|
            q_assign .n (.t rfl) rfl <|
            Lex.nil) ?_
        exact run_ret [] (.cons (.t rfl rfl) .nil) rfl trivial rfl
    · intro rec1 k1 hk3 x1 i4
      obtain ⟨e12, e13, e14⟩ := i4
      try dsimp only at *
      refine run_seq ?_
      refine run_seq ?_
      refine run_region (q_move .n (.t rfl) rfl <|
          q_fld_ow .n (.t rfl) fo_50_3 rfl <|
          q_ld1_ow .n (.t rfl) rfl (.inr rfl) (fun _ => rfl) rfl ic_48 rfl <|
          q_len .n (.t rfl) rfl len_map ss_48 rfl <|
          q_int .n (.t rfl) (.t rfl) rfl rfl <|
          Lex.nil) ?_
      refine run_cond (.t rfl) rfl (fun h5 => ?_) (fun h5 => ?_)
      · try simp only [Bool.and_eq_true, Bool.or_eq_true, Bool.not_eq_true', Bool.and_eq_false_iff, Bool.or_eq_false_iff, Bool.not_eq_false', decide_eq_true_eq, decide_eq_false_iff_not, beq_iff_eq, bne_iff_ne, beq_eq_false_iff_ne, bne_eq_false_iff_eq, Bool.true_and, ne_eq, Decidable.not_not, Int.not_lt, Int.not_le, Nat.not_lt, Nat.not_le, strB_nil, strB_nil', strB_nnil, strB_nnil'] at h5
        refine run_skip ?_
        refine run_seq ?_
        refine run_block ?_
        refine run_draw fmo (q_move .n (.t rfl) rfl <|
            q_fld_ow .n (.t rfl) fo_50_3 rfl <|
            q_ld1_ow .n (.t rfl) rfl (.inr rfl) (fun _ => rfl) rfl ic_48 rfl <|
            q_move .n (.t rfl) rfl <|
            q_idx_rm .n (.t rfl) (.t rfl) sl_48 (fun _ => by first | omega | assumption | (simp only [List.length_append, List.length_cons, List.length_nil, List.length_replicate, put_len] at * <;> omega) | ((have hw := wr64_le (n := v.Number - 1); omega)) | ((have hw := wr64_le (n := v.Number - 1); have h1_ := dec_len (n := v.Number) (by omega); have h2_ := dec_len (n := v.Parent) (by omega); simp <;> omega)) | ((have hS : StIn v.State := (by assumption); have hq := at_all (i := x1.2) hS.2 (by omega); have hl := hS.1; first | omega | (have hd := dec_len (n := (at' v.State x1.2).Value) (by omega); simp <;> omega))) | ((have hS : StIn v.State := (by assumption); have hl := hS.1; first | omega | (simp <;> omega)))) rfl <|
            q_fld_ro .n (.t rfl) fo_78_0 rfl <|
            q_ld1_ro .n (.t rfl) rfl ic_9 rfl <|
            q_strcat .n (.c rfl) (.t rfl) (fun _ => by first | omega | assumption | (simp only [List.length_append, List.length_cons, List.length_nil, List.length_replicate, put_len] at * <;> omega) | ((have hw := wr64_le (n := v.Number - 1); omega)) | ((have hw := wr64_le (n := v.Number - 1); have h1_ := dec_len (n := v.Number) (by omega); have h2_ := dec_len (n := v.Parent) (by omega); simp <;> omega)) | ((have hS : StIn v.State := (by assumption); have hq := at_all (i := x1.2) hS.2 (by omega); have hl := hS.1; first | omega | (have hd := dec_len (n := (at' v.State x1.2).Value) (by omega); simp <;> omega))) | ((have hS : StIn v.State := (by assumption); have hl := hS.1; first | omega | (simp <;> omega)))) rfl <|
            q_strcat .n (.t rfl) (.c rfl) (fun _ => by first | omega | assumption | (simp only [List.length_append, List.length_cons, List.length_nil, List.length_replicate, put_len] at * <;> omega) | ((have hw := wr64_le (n := v.Number - 1); omega)) | ((have hw := wr64_le (n := v.Number - 1); have h1_ := dec_len (n := v.Number) (by omega); have h2_ := dec_len (n := v.Parent) (by omega); simp <;> omega)) | ((have hS : StIn v.State := (by assumption); have hq := at_all (i := x1.2) hS.2 (by omega); have hl := hS.1; first | omega | (have hd := dec_len (n := (at' v.State x1.2).Value) (by omega); simp <;> omega))) | ((have hS : StIn v.State := (by assumption); have hl := hS.1; first | omega | (simp <;> omega)))) rfl <|
            q_fld_ow .n (.t rfl) fo_50_3 rfl <|
            q_ld1_ow .n (.t rfl) rfl (.inr rfl) (fun _ => rfl) rfl ic_48 rfl <|
            q_move .n (.t rfl) rfl <|
            q_idx_rm .n (.t rfl) (.t rfl) sl_48 (fun _ => by first | omega | assumption | (simp only [List.length_append, List.length_cons, List.length_nil, List.length_replicate, put_len] at * <;> omega) | ((have hw := wr64_le (n := v.Number - 1); omega)) | ((have hw := wr64_le (n := v.Number - 1); have h1_ := dec_len (n := v.Number) (by omega); have h2_ := dec_len (n := v.Parent) (by omega); simp <;> omega)) | ((have hS : StIn v.State := (by assumption); have hq := at_all (i := x1.2) hS.2 (by omega); have hl := hS.1; first | omega | (have hd := dec_len (n := (at' v.State x1.2).Value) (by omega); simp <;> omega))) | ((have hS : StIn v.State := (by assumption); have hl := hS.1; first | omega | (simp <;> omega)))) rfl <|
            q_fld_ro .n (.t rfl) fo_78_1 rfl <|
            q_ld1_ro .n (.t rfl) rfl ic_2 rfl <|
            q_call0 (full := false) .n .f en_43 (.cons (.t rfl) .nil) (.cons (.b (.a (.same rfl))) .nil) (fun hg => c_spec_l01Dec (at' v.State x1.2).Value (by first | omega | assumption | (simp only [List.length_append, List.length_cons, List.length_nil, List.length_replicate, put_len] at * <;> omega) | ((have hw := wr64_le (n := v.Number - 1); omega)) | ((have hw := wr64_le (n := v.Number - 1); have h1_ := dec_len (n := v.Number) (by omega); have h2_ := dec_len (n := v.Parent) (by omega); simp <;> omega)) | ((have hS : StIn v.State := (by assumption); have hq := at_all (i := x1.2) hS.2 (by omega); have hl := hS.1; first | omega | (have hd := dec_len (n := (at' v.State x1.2).Value) (by omega); simp <;> omega))) | ((have hS : StIn v.State := (by assumption); have hl := hS.1; first | omega | (simp <;> omega))))) rfl (fun h => Bool.noConfusion h) rfl <|
            q_strcat .n (.t rfl) (.t rfl) (fun _ => by first | omega | assumption | (simp only [List.length_append, List.length_cons, List.length_nil, List.length_replicate, put_len] at * <;> omega) | ((have hw := wr64_le (n := v.Number - 1); omega)) | ((have hw := wr64_le (n := v.Number - 1); have h1_ := dec_len (n := v.Number) (by omega); have h2_ := dec_len (n := v.Parent) (by omega); simp <;> omega)) | ((have hS : StIn v.State := (by assumption); have hq := at_all (i := x1.2) hS.2 (by omega); have hl := hS.1; first | omega | (have hd := dec_len (n := (at' v.State x1.2).Value) (by omega); simp <;> omega))) | ((have hS : StIn v.State := (by assumption); have hl := hS.1; first | omega | (simp <;> omega)))) rfl <|
            q_strcat .n (.t rfl) (.t rfl) (fun _ => by first | omega | assumption | (simp only [List.length_append, List.length_cons, List.length_nil, List.length_replicate, put_len] at * <;> omega) | ((have hw := wr64_le (n := v.Number - 1); omega)) | ((have hw := wr64_le (n := v.Number - 1); have h1_ := dec_len (n := v.Number) (by omega); have h2_ := dec_len (n := v.Parent) (by omega); simp <;> omega)) | ((have hS : StIn v.State := (by assumption); have hq := at_all (i := x1.2) hS.2 (by omega); have hl := hS.1; first | omega | (have hd := dec_len (n := (at' v.State x1.2).Value) (by omega); simp <;> omega))) | ((have hS : StIn v.State := (by assumption); have hl := hS.1; first | omega | (simp <;> omega)))) rfl <|
            q_assign .n (.t rfl) rfl <|
            Lex.nil) (by kernel_rfl) ?_
        refine run_endB ?_
        refine run_region (q_move .n (.t rfl) rfl <|
            q_add .n (.t rfl) (.c rfl) (fun _ => by first | omega | assumption | (simp only [List.length_append, List.length_cons, List.length_nil, List.length_replicate, put_len] at * <;> omega) | ((have hw := wr64_le (n := v.Number - 1); omega)) | ((have hw := wr64_le (n := v.Number - 1); have h1_ := dec_len (n := v.Number) (by omega); have h2_ := dec_len (n := v.Parent) (by omega); simp <;> omega)) | ((have hS : StIn v.State := (by assumption); have hq := at_all (i := x1.2) hS.2 (by omega); have hl := hS.1; first | omega | (have hd := dec_len (n := (at' v.State x1.2).Value) (by omega); simp <;> omega))) | ((have hS : StIn v.State := (by assumption); have hl := hS.1; first | omega | (simp <;> omega)))) rfl <|
            q_assign .n (.t rfl) rfl <|
            Lex.nil) ?_
        exact run_again (x1.1 ++ (((([32] : List UInt8) ++ (at' v.State x1.2).Name) ++ ([61] : List UInt8)) ++ (m_spec_l01Dec (at' v.State x1.2).Value)), x1.2 + 1) ⟨by first | omega | assumption | (simp only [List.length_append, List.length_cons, List.length_nil, List.length_replicate, put_len] at * <;> omega) | ((have hw := wr64_le (n := v.Number - 1); omega)) | ((have hw := wr64_le (n := v.Number - 1); have h1_ := dec_len (n := v.Number) (by omega); have h2_ := dec_len (n := v.Parent) (by omega); simp <;> omega)) | ((have hS : StIn v.State := (by assumption); have hq := at_all (i := x1.2) hS.2 (by omega); have hl := hS.1; first | omega | (have hd := dec_len (n := (at' v.State x1.2).Value) (by omega); simp <;> omega))) | ((have hS : StIn v.State := (by assumption); have hl := hS.1; first | omega | (simp <;> omega))), by first | omega | assumption | (simp only [List.length_append, List.length_cons, List.length_nil, List.length_replicate, put_len] at * <;> omega) | ((have hw := wr64_le (n := v.Number - 1); omega)) | ((have hw := wr64_le (n := v.Number - 1); have h1_ := dec_len (n := v.Number) (by omega); have h2_ := dec_len (n := v.Parent) (by omega); simp <;> omega)) | ((have hS : StIn v.State := (by assumption); have hq := at_all (i := x1.2) hS.2 (by omega); have hl := hS.1; first | omega | (have hd := dec_len (n := (at' v.State x1.2).Value) (by omega); simp <;> omega))) | ((have hS : StIn v.State := (by assumption); have hl := hS.1; first | omega | (simp <;> omega))), by first | omega | assumption | (simp only [List.length_append, List.length_cons, List.length_nil, List.length_replicate, put_len] at * <;> omega) | ((have hw := wr64_le (n := v.Number - 1); omega)) | ((have hw := wr64_le (n := v.Number - 1); have h1_ := dec_len (n := v.Number) (by omega); have h2_ := dec_len (n := v.Parent) (by omega); simp <;> omega)) | ((have hS : StIn v.State := (by assumption); have hq := at_all (i := x1.2) hS.2 (by omega); have hl := hS.1; first | omega | (have hd := dec_len (n := (at' v.State x1.2).Value) (by omega); simp <;> omega))) | ((have hS : StIn v.State := (by assumption); have hl := hS.1; first | omega | (simp <;> omega)))⟩ (by first | omega | assumption | (simp only [List.length_append, List.length_cons, List.length_nil, List.length_replicate, put_len] at * <;> omega) | ((have hw := wr64_le (n := v.Number - 1); omega)) | ((have hw := wr64_le (n := v.Number - 1); have h1_ := dec_len (n := v.Number) (by omega); have h2_ := dec_len (n := v.Parent) (by omega); simp <;> omega)) | ((have hS : StIn v.State := (by assumption); have hq := at_all (i := x1.2) hS.2 (by omega); have hl := hS.1; first | omega | (have hd := dec_len (n := (at' v.State x1.2).Value) (by omega); simp <;> omega))) | ((have hS : StIn v.State := (by assumption); have hl := hS.1; first | omega | (simp <;> omega)))) (sub_of [] ⟨rfl, rfl, rfl, trivial⟩ ⟨rfl, trivial⟩ rfl)
      · try simp only [Bool.and_eq_true, Bool.or_eq_true, Bool.not_eq_true', Bool.and_eq_false_iff, Bool.or_eq_false_iff, Bool.not_eq_false', decide_eq_true_eq, decide_eq_false_iff_not, beq_iff_eq, bne_iff_ne, beq_eq_false_iff_ne, bne_eq_false_iff_eq, Bool.true_and, ne_eq, Decidable.not_not, Int.not_lt, Int.not_le, Nat.not_lt, Nat.not_le, strB_nil, strB_nil', strB_nnil, strB_nnil'] at h5
        refine run_exit rfl ?_
        exact run_cont hk3 (x1.1, x1.2) ⟨by first | omega | assumption | (simp only [List.length_append, List.length_cons, List.length_nil, List.length_replicate, put_len] at * <;> omega) | ((have hw := wr64_le (n := v.Number - 1); omega)) | ((have hw := wr64_le (n := v.Number - 1); have h1_ := dec_len (n := v.Number) (by omega); have h2_ := dec_len (n := v.Parent) (by omega); simp <;> omega)) | ((have hS : StIn v.State := (by assumption); have hq := at_all (i := x1.2) hS.2 (by omega); have hl := hS.1; first | omega | (have hd := dec_len (n := (at' v.State x1.2).Value) (by omega); simp <;> omega))) | ((have hS : StIn v.State := (by assumption); have hl := hS.1; first | omega | (simp <;> omega))), by first | omega | assumption | (simp only [List.length_append, List.length_cons, List.length_nil, List.length_replicate, put_len] at * <;> omega) | ((have hw := wr64_le (n := v.Number - 1); omega)) | ((have hw := wr64_le (n := v.Number - 1); have h1_ := dec_len (n := v.Number) (by omega); have h2_ := dec_len (n := v.Parent) (by omega); simp <;> omega)) | ((have hS : StIn v.State := (by assumption); have hq := at_all (i := x1.2) hS.2 (by omega); have hl := hS.1; first | omega | (have hd := dec_len (n := (at' v.State x1.2).Value) (by omega); simp <;> omega))) | ((have hS : StIn v.State := (by assumption); have hl := hS.1; first | omega | (simp <;> omega))), by first | omega | assumption | (simp only [List.length_append, List.length_cons, List.length_nil, List.length_replicate, put_len] at * <;> omega) | ((have hw := wr64_le (n := v.Number - 1); omega)) | ((have hw := wr64_le (n := v.Number - 1); have h1_ := dec_len (n := v.Number) (by omega); have h2_ := dec_len (n := v.Parent) (by omega); simp <;> omega)) | ((have hS : StIn v.State := (by assumption); have hq := at_all (i := x1.2) hS.2 (by omega); have hl := hS.1; first | omega | (have hd := dec_len (n := (at' v.State x1.2).Value) (by omega); simp <;> omega))) | ((have hS : StIn v.State := (by assumption); have hl := hS.1; first | omega | (simp <;> omega))), by first | omega | assumption | (simp only [List.length_append, List.length_cons, List.length_nil, List.length_replicate, put_len] at * <;> omega) | ((have hw := wr64_le (n := v.Number - 1); omega)) | ((have hw := wr64_le (n := v.Number - 1); have h1_ := dec_len (n := v.Number) (by omega); have h2_ := dec_len (n := v.Parent) (by omega); simp <;> omega)) | ((have hS : StIn v.State := (by assumption); have hq := at_all (i := x1.2) hS.2 (by omega); have hl := hS.1; first | omega | (have hd := dec_len (n := (at' v.State x1.2).Value) (by omega); simp <;> omega))) | ((have hS : StIn v.State := (by assumption); have hl := hS.1; first | omega | (simp <;> omega)))⟩ (sub_of [] ⟨rfl, rfl, trivial⟩ ⟨rfl, trivial⟩ rfl)

/-! ### laws_toSetting -/
theorem c_laws_toSetting (a : gSetting) : Con Tryd.prog 62 [.st [.str a.Name, .int .i64 a.Value]] [] (.st [.str (m_laws_toSetting a).Name, .int .i64 (m_laws_toSetting a).Value]) ([]) := by
  refine con_intro (out := fun r : gSetting => ((.st [.str r.Name, .int .i64 r.Value] : V), ([] : List (Nat × Option O)))) (r := (m_laws_toSetting a)) Tryd.func62 rfl Tryd.ntmps62 rfl ?_
  refine run_seq ?_
  refine run_region (q_box (l := 200) .n rfl (.t rfl) rfl rfl rfl rfl <|
      q_alloc (l := 201) .n rfl zv_78 rfl rfl <|
      Lex.nil) ?_
  refine run_seq ?_
  refine run_region (q_alloc (l := 202) .n rfl zv_78 rfl rfl <|
      Lex.nil) ?_
  refine run_seq ?_
  refine run_region (q_fld_ow .n (.t rfl) fo_88_0 rfl <|
      q_ld1_ow .n (.t rfl) rfl (.inr rfl) (fun _ => rfl) rfl ic_9 rfl <|
      q_fld_ow .n (.t rfl) fo_78_0 rfl <|
      q_st_boxm [.str a.Name, .int .i64 0] .n rfl (.t rfl) (.t rfl) rfl ts_9 rfl rfl <|
      Lex.nil) ?_
  refine run_seq ?_
  refine run_region (q_fld_ow .n (.t rfl) fo_88_1 rfl <|
      q_ld1_ow .n (.t rfl) rfl (.inr rfl) (fun _ => rfl) rfl ic_2 rfl <|
      q_fld_ow .n (.t rfl) fo_78_1 rfl <|
      q_st_boxm [.str a.Name, .int .i64 a.Value] .n rfl (.t rfl) (.t rfl) rfl ts_2 rfl rfl <|
      Lex.nil) ?_
  refine run_seq ?_
  refine run_region (q_ldN_ow .n (.t rfl) rfl (.inr rfl) ag_78 (fun _ => rfl) rfl rfl <|
      q_st_boxm [.str a.Name, .int .i64 a.Value] .n rfl (.t rfl) (.t rfl) rfl ts_78 rfl rfl <|
      Lex.nil) ?_
  exact run_ret [] (.cons (.cN rfl rfl ag_78 rfl rfl) .nil) (by first | rfl | (simp only [put_len]; rfl)) trivial rfl

/-! ### laws_toSettingS -/
theorem c_laws_toSettingS (a : List gSetting) (hp1 : a.length ≤ 1048576 ∧ ∀ y ∈ a, gSetting.sz y) : Con Tryd.prog 44 [.sl 2 (a.map gSetting.v)] [] (.os 100 (m_laws_toSettingS a).length) ([(100, some (.row 78 2 ((m_laws_toSettingS a).map gSetting.v)))]) := by
  refine con_intro (out := fun r : (List gSetting) => ((.os 100 r.length : V), ([(100, some (.row 78 2 (r.map gSetting.v)))] : List (Nat × Option O)))) (r := (m_laws_toSettingS a)) Tryd.func44 rfl Tryd.ntmps44 rfl ?_
  refine run_fact (t := 0) rfl fun hl => ?_
  have l1 := hl; clear hl; simp only [List.length_map] at l1
  refine run_seq ?_
  refine run_region (q_assign .n (.c rfl) rfl <|
      Lex.nil) ?_
  refine run_seq ?_
  refine run_region (q_move .n (.t rfl) rfl <|
      q_len .n (.t rfl) rfl len_map ss_43 rfl <|
      q_makem (f := gSetting.v) (l := 200) (gSetting.mk ([] : List UInt8) 0 : gSetting) .n rfl (.t rfl) (.t rfl) si_48 zv_78 (by first | omega | assumption | (simp only [List.length_append, List.length_cons, List.length_nil, List.length_replicate, put_len] at * <;> omega) | (exact hp1.2) | (exact at_all hp1.2 (by omega)) | (exact hp1.1) | (exact hp1)) rfl rfl rfl <|
      q_assign .n (.t rfl) rfl <|
      Lex.nil) ?_
  refine run_seq ?_
  refine run_seq ?_
  refine run_region (q_assign .n (.c rfl) rfl <|
      Lex.nil) ?_
  refine run_block ?_
  refine run_LOOP (m_laws_toSettingS_b1 a) _ _ _ rfl (fun (x1 : (List gSetting) × Int) => 0 ≤ x1.2 ∧ x1.2 ≤ (a.length : Int) ∧ x1.1.length = (List.replicate ((a.length : Int) : Int).toNat (gSetting.mk ([] : List UInt8) 0 : gSetting)).length) (fun x1 => 0 ≤ x1.2 ∧ x1.2 ≤ (a.length : Int) ∧ x1.1.length = (List.replicate ((a.length : Int) : Int).toNat (gSetting.mk ([] : List UInt8) 0 : gSetting)).length ∧ (a.length : Int) ≤ x1.2) (fun x1 => ((a.length : Int) - x1.2 : Int).toNat) (fun x1 => ⟨[(0, some (true, .sl 2 (a.map gSetting.v))), (3, some (true, .os 200 x1.1.length)), (4, some (true, .int .i64 x1.2))], [(200, some (.row 78 2 (x1.1.map gSetting.v)))]⟩) (fun x1 => ⟨[(3, some (true, .os 200 x1.1.length))], [(200, some (.row 78 2 (x1.1.map gSetting.v)))]⟩) ⟨by first | omega | assumption | (simp only [List.length_append, List.length_cons, List.length_nil, List.length_replicate, put_len] at * <;> omega) | (exact hp1.2) | (exact at_all hp1.2 (by omega)) | (exact hp1.1) | (exact hp1), by first | omega | assumption | (simp only [List.length_append, List.length_cons, List.length_nil, List.length_replicate, put_len] at * <;> omega) | (exact hp1.2) | (exact at_all hp1.2 (by omega)) | (exact hp1.1) | (exact hp1), by first | omega | assumption | (simp only [List.length_append, List.length_cons, List.length_nil, List.length_replicate, put_len] at * <;> omega) | (exact hp1.2) | (exact at_all hp1.2 (by omega)) | (exact hp1.1) | (exact hp1)⟩ (by first | omega | assumption | (simp only [List.length_append, List.length_cons, List.length_nil, List.length_replicate, put_len] at * <;> omega) | (exact hp1.2) | (exact at_all hp1.2 (by omega)) | (exact hp1.1) | (exact hp1)) (sub_of [] ⟨rfl, rfl, rfl, trivial⟩ ⟨rfl, trivial⟩ rfl) ?_ ?_
  · intro x1 i5
    obtain ⟨e6, e7, e8, e9⟩ := i5
    try dsimp only at *
    refine run_seq ?_
    refine run_region (q_move .n (.t rfl) rfl <|
        q_assign .n (.t rfl) rfl <|
        Lex.nil) ?_
    exact run_ret [(100, 200)] (.cons (.t rfl rfl) .nil) (by first | rfl | (simp only [put_len]; rfl)) ⟨rfl, trivial⟩ rfl
  · intro rec1 k1 hk2 x1 i3
    obtain ⟨e10, e11, e12⟩ := i3
    try dsimp only at *
    refine run_seq ?_
    refine run_seq ?_
    refine run_region (q_move .n (.t rfl) rfl <|
        q_move .n (.t rfl) rfl <|
        q_len .n (.t rfl) rfl len_map ss_43 rfl <|
        q_int .n (.t rfl) (.t rfl) rfl rfl <|
        Lex.nil) ?_
    refine run_cond (.t rfl) rfl (fun h4 => ?_) (fun h4 => ?_)
    · try simp only [Bool.and_eq_true, Bool.or_eq_true, Bool.not_eq_true', Bool.and_eq_false_iff, Bool.or_eq_false_iff, Bool.not_eq_false', decide_eq_true_eq, decide_eq_false_iff_not, beq_iff_eq, bne_iff_ne, beq_eq_false_iff_ne, bne_eq_false_iff_eq, Bool.true_and, ne_eq, Decidable.not_not, Int.not_lt, Int.not_le, Nat.not_lt, Nat.not_le, strB_nil, strB_nil', strB_nnil, strB_nnil'] at h4
      refine run_skip ?_
      refine run_seq ?_
      refine run_block ?_
      refine run_region (q_move .n (.t rfl) rfl <|
          q_move .n (.t rfl) rfl <|
          q_move .n (.t rfl) rfl <|
          q_move .n (.t rfl) rfl <|
          q_idx_rm .n (.t rfl) (.t rfl) sl_43 (fun _ => by first | omega | assumption | (simp only [List.length_append, List.length_cons, List.length_nil, List.length_replicate, put_len] at * <;> omega) | (exact hp1.2) | (exact at_all hp1.2 (by omega)) | (exact hp1.1) | (exact hp1)) rfl <|
          q_ldN_ro .n (.t rfl) ag_88 rfl rfl rfl <|
          q_call0 (full := false) .n .f en_62 (.cons (.t rfl) .nil) (.cons (.sts rfl) .nil) (fun hg => c_laws_toSetting (at' a x1.2)) rfl (fun h => Bool.noConfusion h) rfl <|
          q_idx_ow .n (.t rfl) (.t rfl) sl_48 (fun _ => by first | omega | assumption | (simp only [List.length_append, List.length_cons, List.length_nil, List.length_replicate, put_len] at * <;> omega) | (exact hp1.2) | (exact at_all hp1.2 (by omega)) | (exact hp1.1) | (exact hp1)) rfl <|
          q_st_rowm (m_laws_toSetting (at' a x1.2)) .n rfl (.t rfl) (.t rfl) rfl ts_78 (by first | omega | assumption | (simp only [List.length_append, List.length_cons, List.length_nil, List.length_replicate, put_len] at * <;> omega) | (exact hp1.2) | (exact at_all hp1.2 (by omega)) | (exact hp1.1) | (exact hp1)) rfl rfl <|
          Lex.nil) ?_
      refine run_endB ?_
      refine run_region (q_move .n (.t rfl) rfl <|
          q_add .n (.t rfl) (.c rfl) (fun _ => by first | omega | assumption | (simp only [List.length_append, List.length_cons, List.length_nil, List.length_replicate, put_len] at * <;> omega) | (exact hp1.2) | (exact at_all hp1.2 (by omega)) | (exact hp1.1) | (exact hp1)) rfl <|
          q_assign .n (.t rfl) rfl <|
          Lex.nil) ?_
      exact run_again (put' x1.1 x1.2 (m_laws_toSetting (at' a x1.2)), x1.2 + 1) ⟨by first | omega | assumption | (simp only [List.length_append, List.length_cons, List.length_nil, List.length_replicate, put_len] at * <;> omega) | (exact hp1.2) | (exact at_all hp1.2 (by omega)) | (exact hp1.1) | (exact hp1), by first | omega | assumption | (simp only [List.length_append, List.length_cons, List.length_nil, List.length_replicate, put_len] at * <;> omega) | (exact hp1.2) | (exact at_all hp1.2 (by omega)) | (exact hp1.1) | (exact hp1), by first | omega | assumption | (simp only [List.length_append, List.length_cons, List.length_nil, List.length_replicate, put_len] at * <;> omega) | (exact hp1.2) | (exact at_all hp1.2 (by omega)) | (exact hp1.1) | (exact hp1)⟩ (by first | omega | assumption | (simp only [List.length_append, List.length_cons, List.length_nil, List.length_replicate, put_len] at * <;> omega) | (exact hp1.2) | (exact at_all hp1.2 (by omega)) | (exact hp1.1) | (exact hp1)) (sub_of [] ⟨rfl, os_len rfl (by first | (simp only [put_len]; done) | (first | omega | assumption | (simp only [List.length_append, List.length_cons, List.length_nil, List.length_replicate, put_len] at * <;> omega) | (exact hp1.2) | (exact at_all hp1.2 (by omega)) | (exact hp1.1) | (exact hp1))), rfl, trivial⟩ ⟨rfl, trivial⟩ rfl)
    · try simp only [Bool.and_eq_true, Bool.or_eq_true, Bool.not_eq_true', Bool.and_eq_false_iff, Bool.or_eq_false_iff, Bool.not_eq_false', decide_eq_true_eq, decide_eq_false_iff_not, beq_iff_eq, bne_iff_ne, beq_eq_false_iff_ne, bne_eq_false_iff_eq, Bool.true_and, ne_eq, Decidable.not_not, Int.not_lt, Int.not_le, Nat.not_lt, Nat.not_le, strB_nil, strB_nil', strB_nnil, strB_nnil'] at h4
      refine run_exit rfl ?_
      exact run_cont hk2 (x1.1, x1.2) ⟨by first | omega | assumption | (simp only [List.length_append, List.length_cons, List.length_nil, List.length_replicate, put_len] at * <;> omega) | (exact hp1.2) | (exact at_all hp1.2 (by omega)) | (exact hp1.1) | (exact hp1), by first | omega | assumption | (simp only [List.length_append, List.length_cons, List.length_nil, List.length_replicate, put_len] at * <;> omega) | (exact hp1.2) | (exact at_all hp1.2 (by omega)) | (exact hp1.1) | (exact hp1), by first | omega | assumption | (simp only [List.length_append, List.length_cons, List.length_nil, List.length_replicate, put_len] at * <;> omega) | (exact hp1.2) | (exact at_all hp1.2 (by omega)) | (exact hp1.1) | (exact hp1), by first | omega | assumption | (simp only [List.length_append, List.length_cons, List.length_nil, List.length_replicate, put_len] at * <;> omega) | (exact hp1.2) | (exact at_all hp1.2 (by omega)) | (exact hp1.1) | (exact hp1)⟩ (sub_of [] ⟨rfl, trivial⟩ ⟨rfl, trivial⟩ rfl)

/-! ### laws_toVersion -/
theorem c_laws_toVersion (a : gVersion) (hp1 : gVersion.sz a) : Con Tryd.prog 22 [.st [.int .i64 a.Number, .int .i64 a.Parent, .str a.Memo, .sl 2 (a.State.map gSetting.v)]] [] (.st [.int .i64 (m_laws_toVersion a).Number, .int .i64 (m_laws_toVersion a).Parent, .str (m_laws_toVersion a).Memo, .os 100 (m_laws_toVersion a).State.length]) ([(100, some (.row 78 2 ((m_laws_toVersion a).State.map gSetting.v)))]) := by
  refine con_intro (out := fun r : gVersion => ((.st [.int .i64 r.Number, .int .i64 r.Parent, .str r.Memo, .os 100 r.State.length] : V), ([(100, some (.row 78 2 (r.State.map gSetting.v)))] : List (Nat × Option O)))) (r := (m_laws_toVersion a)) Tryd.func22 rfl Tryd.ntmps22 rfl ?_
  refine run_factS (t := 0) 3 rfl rfl fun hl => ?_
  have l1 := hl; clear hl; simp only [List.length_map] at l1
  refine run_seq ?_
  refine run_region (q_box (l := 200) .n rfl (.t rfl) rfl rfl rfl rfl <|
      q_alloc (l := 201) .n rfl zv_50 rfl rfl <|
      Lex.nil) ?_
  refine run_seq ?_
  refine run_region (q_alloc (l := 202) .n rfl zv_50 rfl rfl <|
      Lex.nil) ?_
  refine run_seq ?_
  refine run_region (q_fld_ow .n (.t rfl) fo_45_0 rfl <|
      q_ld1_ow .n (.t rfl) rfl (.inr rfl) (fun _ => rfl) rfl ic_2 rfl <|
      q_fld_ow .n (.t rfl) fo_50_0 rfl <|
      q_st_boxm [.int .i64 a.Number, .int .i64 0, .str ([] : List UInt8), .nls] .n rfl (.t rfl) (.t rfl) rfl ts_2 rfl rfl <|
      Lex.nil) ?_
  refine run_seq ?_
  refine run_region (q_fld_ow .n (.t rfl) fo_45_1 rfl <|
      q_ld1_ow .n (.t rfl) rfl (.inr rfl) (fun _ => rfl) rfl ic_2 rfl <|
      q_fld_ow .n (.t rfl) fo_50_1 rfl <|
      q_st_boxm [.int .i64 a.Number, .int .i64 a.Parent, .str ([] : List UInt8), .nls] .n rfl (.t rfl) (.t rfl) rfl ts_2 rfl rfl <|
      Lex.nil) ?_
  refine run_seq ?_
  refine run_region (q_fld_ow .n (.t rfl) fo_45_2 rfl <|
      q_ld1_ow .n (.t rfl) rfl (.inr rfl) (fun _ => rfl) rfl ic_9 rfl <|
      q_fld_ow .n (.t rfl) fo_50_2 rfl <|
      q_st_boxm [.int .i64 a.Number, .int .i64 a.Parent, .str a.Memo, .nls] .n rfl (.t rfl) (.t rfl) rfl ts_9 rfl rfl <|
      Lex.nil) ?_
  refine run_seq ?_
  refine run_region (q_fld_ow .n (.t rfl) fo_45_3 rfl <|
      q_ld1_ow .n (.t rfl) rfl (.inr rfl) (fun _ => rfl) rfl ic_43 rfl <|
      q_callM (full := false) [] [(100, 203)] .n rfl .f en_44 (.cons (.t rfl) .nil) (.cons (.b (.a (.same rfl))) .nil) (c_laws_toSettingS a.State (by first | omega | assumption | (simp only [List.length_append, List.length_cons, List.length_nil, List.length_replicate, put_len] at * <;> omega) | (exact hp1.2) | (exact at_all hp1.2 (by omega)) | (exact hp1.1) | (exact hp1))) trivial rfl rfl (fun h => Bool.noConfusion h) (fun h => Bool.noConfusion h) rfl <|
      q_fld_ow .n (.t rfl) fo_50_3 rfl <|
      q_st_boxm [.int .i64 a.Number, .int .i64 a.Parent, .str a.Memo, .os 203 (m_laws_toSettingS a.State).length] .n rfl (.t rfl) (.t rfl) rfl ts_48 rfl rfl <|
      Lex.nil) ?_
  refine run_seq ?_
  refine run_region (q_ldN_ow .n (.t rfl) rfl (.inr rfl) ag_50 (fun _ => rfl) rfl rfl <|
      q_st_boxm [.int .i64 a.Number, .int .i64 a.Parent, .str a.Memo, .os 203 (m_laws_toSettingS a.State).length] .n rfl (.t rfl) (.t rfl) rfl ts_50 rfl rfl <|
      Lex.nil) ?_
  exact run_ret [(100, 203)] (.cons (.cN rfl rfl ag_50 rfl rfl) .nil) (by first | rfl | (simp only [put_len]; rfl)) ⟨rfl, trivial⟩ rfl

/-! ### impl_within -/
theorem c_impl_within (n_ : Int) (low : Int) (high : Int) : Con Tryd.prog 45 [.int .i64 n_, .int .i64 low, .int .i64 high] [] (.bool (m_impl_within n_ low high)) ([]) := by
  refine con_intro (out := fun r : Bool => ((.bool r : V), ([] : List (Nat × Option O)))) (r := (m_impl_within n_ low high)) Tryd.func45 rfl Tryd.ntmps45 rfl ?_
  refine run_seq ?_
  refine run_region (q_assign .n (.c rfl) rfl <|
      Lex.nil) ?_
  refine run_seq ?_
  refine run_region (q_move .n (.t rfl) rfl <|
      q_move .n (.t rfl) rfl <|
      q_int .n (.t rfl) (.t rfl) rfl rfl <|
      q_move .n (.t rfl) rfl <|
      q_move (.t rfl rfl) (.t rfl) rfl <|
      q_move (.t rfl rfl) (.t rfl) rfl <|
      q_int (.t rfl rfl) (.u rfl id) (.u rfl id) rfl rfl <|
      q_and .n (.t rfl) (.u rfl id) rfl <|
      q_assign .n (.t rfl) rfl <|
      Lex.nil) ?_
  exact run_ret [] (.cons (.t rfl rfl) .nil) rfl trivial rfl

/-! ### impl_bytesWithin -/
theorem c_impl_bytesWithin (s_ : List UInt8) (low : Int) (high : Int) (hp1 : s_.length ≤ 1048576) : Con Tryd.prog 63 [.str s_, .int .u8 low, .int .u8 high] [] (.bool (m_impl_bytesWithin s_ low high)) ([]) := by
  refine con_intro (out := fun r : Bool => ((.bool r : V), ([] : List (Nat × Option O)))) (r := (m_impl_bytesWithin s_ low high)) Tryd.func63 rfl Tryd.ntmps63 rfl ?_
  refine run_seq ?_
  refine run_region (q_assign .n (.c rfl) rfl <|
      Lex.nil) ?_
  refine run_seq ?_
  refine run_seq ?_
  refine run_region (q_move .n (.t rfl) rfl <|
      q_len .n (.t rfl) rfl rfl st_9 rfl <|
      q_move .n (.c rfl) rfl <|
      Lex.nil) ?_
  refine run_block ?_
  refine run_LOOP (m_impl_bytesWithin_b1 s_ low high) _ _ _ rfl (fun (x1 : Int) => 0 ≤ x1 ∧ x1 ≤ (s_.length : Int)) (fun x1 => 0 ≤ x1 ∧ x1 ≤ (s_.length : Int) ∧ (s_.length : Int) ≤ x1) (fun x1 => ((s_.length : Int) - x1 : Int).toNat) (fun x1 => ⟨[(0, some (true, .str s_)), (1, some (true, .int .u8 low)), (2, some (true, .int .u8 high)), (9, some (true, .int .i64 (s_.length : Int))), (10, some (true, .int .i64 x1))], []⟩) (fun x1 => ⟨[], []⟩) ⟨by first | omega | assumption | (simp only [List.length_append, List.length_cons, List.length_nil, List.length_replicate, put_len] at * <;> omega), by first | omega | assumption | (simp only [List.length_append, List.length_cons, List.length_nil, List.length_replicate, put_len] at * <;> omega)⟩ (by first | omega | assumption | (simp only [List.length_append, List.length_cons, List.length_nil, List.length_replicate, put_len] at * <;> omega)) (sub_of [] ⟨rfl, rfl, rfl, rfl, rfl, trivial⟩ trivial rfl) ?_ ?_
  · intro x1 i5
    obtain ⟨e6, e7, e8⟩ := i5
    try dsimp only at *
    refine run_seq ?_
    refine run_region (q_assign .n (.c rfl) rfl <|
        Lex.nil) ?_
    exact run_ret [] (.cons (.t rfl rfl) .nil) rfl trivial rfl
  · intro rec1 k1 hk1 x1 i2
    obtain ⟨e9, e10⟩ := i2
    try dsimp only at *
    refine run_seq ?_
    refine run_region (q_int .n (.t rfl) (.t rfl) rfl rfl <|
        Lex.nil) ?_
    refine run_seq ?_
    refine run_cond (.t rfl) rfl (fun h3 => ?_) (fun h3 => ?_)
    · try simp only [Bool.and_eq_true, Bool.or_eq_true, Bool.not_eq_true', Bool.and_eq_false_iff, Bool.or_eq_false_iff, Bool.not_eq_false', decide_eq_true_eq, decide_eq_false_iff_not, beq_iff_eq, bne_iff_ne, beq_eq_false_iff_ne, bne_eq_false_iff_eq, Bool.true_and, ne_eq, Decidable.not_not, Int.not_lt, Int.not_le, Nat.not_lt, Nat.not_le, strB_nil, strB_nil', strB_nnil, strB_nnil'] at h3
      refine run_skip ?_
      refine run_seq ?_
      refine run_block ?_
      refine run_seq ?_
      refine run_region (q_move .n (.t rfl) rfl <|
          q_assign .n (.t rfl) rfl <|
          Lex.nil) ?_
      refine run_seq ?_
      refine run_region (q_move .n (.t rfl) rfl <|
          q_move .n (.t rfl) rfl <|
          q_strat .n (.t rfl) (.t rfl) st_9 (fun _ => by first | omega | assumption | (simp only [List.length_append, List.length_cons, List.length_nil, List.length_replicate, put_len] at * <;> omega)) rfl <|
          q_move .n (.t rfl) rfl <|
          q_int .n (.t rfl) (.t rfl) rfl rfl <|
          q_move .n (.t rfl) rfl <|
          q_move (.f rfl rfl) (.t rfl) rfl <|
          q_move (.f rfl rfl) (.t rfl) rfl <|
          q_strat (.f rfl rfl) (.u rfl id) (.u rfl id) st_9 (fun hg => by simp only [Bool.and_eq_true, Bool.or_eq_true, Bool.not_eq_true', Bool.and_eq_false_iff, Bool.or_eq_false_iff, Bool.not_eq_false', decide_eq_true_eq, decide_eq_false_iff_not, beq_iff_eq, bne_iff_ne, beq_eq_false_iff_ne, bne_eq_false_iff_eq, Bool.true_and, ne_eq, Decidable.not_not, Int.not_lt, Int.not_le, Nat.not_lt, Nat.not_le, strB_nil, strB_nil', strB_nnil, strB_nnil'] at hg; first | omega | assumption | (simp only [List.length_append, List.length_cons, List.length_nil, List.length_replicate, put_len] at * <;> omega)) rfl <|
          q_move (.f rfl rfl) (.t rfl) rfl <|
          q_int (.f rfl rfl) (.u rfl id) (.u rfl id) rfl rfl <|
          q_or .n (.t rfl) (.u rfl id) rfl <|
          Lex.nil) ?_
      refine run_cond (.t rfl) rfl (fun h4 => ?_) (fun h4 => ?_)
      · try simp only [Bool.and_eq_true, Bool.or_eq_true, Bool.not_eq_true', Bool.and_eq_false_iff, Bool.or_eq_false_iff, Bool.not_eq_false', decide_eq_true_eq, decide_eq_false_iff_not, beq_iff_eq, bne_iff_ne, beq_eq_false_iff_ne, bne_eq_false_iff_eq, Bool.true_and, ne_eq, Decidable.not_not, Int.not_lt, Int.not_le, Nat.not_lt, Nat.not_le, strB_nil, strB_nil', strB_nnil, strB_nnil'] at h4
        refine run_seq ?_
        refine run_region (q_assign .n (.c rfl) rfl <|
            Lex.nil) ?_
        exact run_ret [] (.cons (.t rfl rfl) .nil) rfl trivial rfl
      · try simp only [Bool.and_eq_true, Bool.or_eq_true, Bool.not_eq_true', Bool.and_eq_false_iff, Bool.or_eq_false_iff, Bool.not_eq_false', decide_eq_true_eq, decide_eq_false_iff_not, beq_iff_eq, bne_iff_ne, beq_eq_false_iff_ne, bne_eq_false_iff_eq, Bool.true_and, ne_eq, Decidable.not_not, Int.not_lt, Int.not_le, Nat.not_lt, Nat.not_le, strB_nil, strB_nil', strB_nnil, strB_nnil'] at h4
        refine run_skip ?_
        refine run_endB ?_
        refine run_region (q_add .n (.t rfl) (.c rfl) (fun _ => by first | omega | assumption | (simp only [List.length_append, List.length_cons, List.length_nil, List.length_replicate, put_len] at * <;> omega)) rfl <|
            q_move .n (.t rfl) rfl <|
            Lex.nil) ?_
        exact run_again (x1 + 1) ⟨by first | omega | assumption | (simp only [List.length_append, List.length_cons, List.length_nil, List.length_replicate, put_len] at * <;> omega), by first | omega | assumption | (simp only [List.length_append, List.length_cons, List.length_nil, List.length_replicate, put_len] at * <;> omega)⟩ (by first | omega | assumption | (simp only [List.length_append, List.length_cons, List.length_nil, List.length_replicate, put_len] at * <;> omega)) (sub_of [] ⟨rfl, rfl, rfl, rfl, rfl, trivial⟩ trivial rfl)
    · try simp only [Bool.and_eq_true, Bool.or_eq_true, Bool.not_eq_true', Bool.and_eq_false_iff, Bool.or_eq_false_iff, Bool.not_eq_false', decide_eq_true_eq, decide_eq_false_iff_not, beq_iff_eq, bne_iff_ne, beq_eq_false_iff_ne, bne_eq_false_iff_eq, Bool.true_and, ne_eq, Decidable.not_not, Int.not_lt, Int.not_le, Nat.not_lt, Nat.not_le, strB_nil, strB_nil', strB_nnil, strB_nnil'] at h3
      refine run_exit rfl ?_
      exact run_cont hk1 x1 ⟨by first | omega | assumption | (simp only [List.length_append, List.length_cons, List.length_nil, List.length_replicate, put_len] at * <;> omega), by first | omega | assumption | (simp only [List.length_append, List.length_cons, List.length_nil, List.length_replicate, put_len] at * <;> omega), by first | omega | assumption | (simp only [List.length_append, List.length_cons, List.length_nil, List.length_replicate, put_len] at * <;> omega)⟩ (sub_of [] trivial trivial rfl)

/-! ### impl_memoValid -/
theorem c_impl_memoValid (memo : List UInt8) : Con Tryd.prog 46 [.str memo] [] (.bool (m_impl_memoValid memo)) ([]) := by
  refine con_intro (out := fun r : Bool => ((.bool r : V), ([] : List (Nat × Option O)))) (r := (m_impl_memoValid memo)) Tryd.func46 rfl Tryd.ntmps46 rfl ?_
  refine run_seq ?_
  refine run_region (q_assign .n (.c rfl) rfl <|
      Lex.nil) ?_
  refine run_seq ?_
  refine run_region (q_move .n (.t rfl) rfl <|
      q_len .n (.t rfl) rfl rfl st_9 rfl <|
      q_int .n (.t rfl) (.c rfl) rfl rfl <|
      q_move .n (.t rfl) rfl <|
      q_move (.t rfl rfl) (.t rfl) rfl <|
      q_call0 (full := false) (.t rfl rfl) .f en_63 (.cons (.u rfl id) (.cons (.c rfl) (.cons (.c rfl) .nil))) (.cons (.b (.a (.same rfl))) (.cons (.b (.a (.same rfl))) (.cons (.b (.a (.same rfl))) .nil))) (fun hg => c_impl_bytesWithin memo 32 126 (by simp only [Bool.and_eq_true, Bool.or_eq_true, Bool.not_eq_true', Bool.and_eq_false_iff, Bool.or_eq_false_iff, Bool.not_eq_false', decide_eq_true_eq, decide_eq_false_iff_not, beq_iff_eq, bne_iff_ne, beq_eq_false_iff_ne, bne_eq_false_iff_eq, Bool.true_and, ne_eq, Decidable.not_not, Int.not_lt, Int.not_le, Nat.not_lt, Nat.not_le, strB_nil, strB_nil', strB_nnil, strB_nnil'] at hg; first | omega | assumption | (simp only [List.length_append, List.length_cons, List.length_nil, List.length_replicate, put_len] at * <;> omega))) rfl (fun h => Bool.noConfusion h) rfl <|
      q_and .n (.t rfl) (.u rfl id) rfl <|
      q_assign .n (.t rfl) rfl <|
      Lex.nil) ?_
  exact run_ret [] (.cons (.t rfl rfl) .nil) rfl trivial rfl

/-! ### impl_onlyNameBytes -/
theorem c_impl_onlyNameBytes (s_ : List UInt8) (hp1 : s_.length ≤ 10) : Con Tryd.prog 74 [.str s_] [] (.bool (m_impl_onlyNameBytes s_)) ([]) := by
  refine con_intro (out := fun r : Bool => ((.bool r : V), ([] : List (Nat × Option O)))) (r := (m_impl_onlyNameBytes s_)) Tryd.func74 rfl Tryd.ntmps74 rfl ?_
  refine run_seq ?_
  refine run_region (q_assign .n (.c rfl) rfl <|
      Lex.nil) ?_
  refine run_seq ?_
  refine run_seq ?_
  refine run_region (q_move .n (.t rfl) rfl <|
      q_len .n (.t rfl) rfl rfl st_9 rfl <|
      q_move .n (.c rfl) rfl <|
      Lex.nil) ?_
  refine run_block ?_
  refine run_LOOP (m_impl_onlyNameBytes_b1 s_) _ _ _ rfl (fun (x1 : Int) => 0 ≤ x1 ∧ x1 ≤ (s_.length : Int)) (fun x1 => 0 ≤ x1 ∧ x1 ≤ (s_.length : Int) ∧ (s_.length : Int) ≤ x1) (fun x1 => ((s_.length : Int) - x1 : Int).toNat) (fun x1 => ⟨[(0, some (true, .str s_)), (6, some (true, .int .i64 (s_.length : Int))), (7, some (true, .int .i64 x1))], []⟩) (fun x1 => ⟨[], []⟩) ⟨by first | omega | assumption | (simp only [List.length_append, List.length_cons, List.length_nil, List.length_replicate, put_len] at * <;> omega), by first | omega | assumption | (simp only [List.length_append, List.length_cons, List.length_nil, List.length_replicate, put_len] at * <;> omega)⟩ (by first | omega | assumption | (simp only [List.length_append, List.length_cons, List.length_nil, List.length_replicate, put_len] at * <;> omega)) (sub_of [] ⟨rfl, rfl, rfl, trivial⟩ trivial rfl) ?_ ?_
  · intro x1 i5
    obtain ⟨e6, e7, e8⟩ := i5
    try dsimp only at *
    refine run_seq ?_
    refine run_region (q_assign .n (.c rfl) rfl <|
        Lex.nil) ?_
    exact run_ret [] (.cons (.t rfl rfl) .nil) rfl trivial rfl
  · intro rec1 k1 hk1 x1 i2
    obtain ⟨e9, e10⟩ := i2
    try dsimp only at *
    refine run_seq ?_
    refine run_region (q_int .n (.t rfl) (.t rfl) rfl rfl <|
        Lex.nil) ?_
    refine run_seq ?_
    refine run_cond (.t rfl) rfl (fun h3 => ?_) (fun h3 => ?_)
    · try simp only [Bool.and_eq_true, Bool.or_eq_true, Bool.not_eq_true', Bool.and_eq_false_iff, Bool.or_eq_false_iff, Bool.not_eq_false', decide_eq_true_eq, decide_eq_false_iff_not, beq_iff_eq, bne_iff_ne, beq_eq_false_iff_ne, bne_eq_false_iff_eq, Bool.true_and, ne_eq, Decidable.not_not, Int.not_lt, Int.not_le, Nat.not_lt, Nat.not_le, strB_nil, strB_nil', strB_nnil, strB_nnil'] at h3
      refine run_skip ?_
      refine run_seq ?_
      refine run_block ?_
      refine run_seq ?_
      refine run_region (q_move .n (.t rfl) rfl <|
          q_assign .n (.t rfl) rfl <|
          Lex.nil) ?_
      refine run_seq ?_
      refine run_region (q_move .n (.t rfl) rfl <|
          q_move .n (.t rfl) rfl <|
          q_strat .n (.t rfl) (.t rfl) st_9 (fun _ => by first | omega | assumption | (simp only [List.length_append, List.length_cons, List.length_nil, List.length_replicate, put_len] at * <;> omega)) rfl <|
          q_assign .n (.t rfl) rfl <|
          Lex.nil) ?_
      refine run_seq ?_
      refine run_region (q_move .n (.t rfl) rfl <|
          q_int .n (.t rfl) (.c rfl) rfl rfl <|
          q_move .n (.t rfl) rfl <|
          q_move (.f rfl rfl) (.t rfl) rfl <|
          q_int (.f rfl rfl) (.u rfl id) (.c rfl) rfl rfl <|
          q_or .n (.t rfl) (.u rfl id) rfl <|
          q_move .n (.t rfl) rfl <|
          q_move (.t rfl rfl) (.t rfl) rfl <|
          q_int (.t rfl rfl) (.u rfl id) (.c rfl) rfl rfl <|
          q_move (.t rfl rfl) (.u rfl id) rfl <|
          q_move (.f rfl rfl) (.t rfl) rfl <|
          q_int (.f rfl rfl) (.u rfl id) (.c rfl) rfl rfl <|
          q_or (.t rfl rfl) (.u rfl id) (.u rfl id) rfl <|
          q_and .n (.t rfl) (.u rfl id) rfl <|
          Lex.nil) ?_
      refine run_cond (.t rfl) rfl (fun h4 => ?_) (fun h4 => ?_)
      · try simp only [Bool.and_eq_true, Bool.or_eq_true, Bool.not_eq_true', Bool.and_eq_false_iff, Bool.or_eq_false_iff, Bool.not_eq_false', decide_eq_true_eq, decide_eq_false_iff_not, beq_iff_eq, bne_iff_ne, beq_eq_false_iff_ne, bne_eq_false_iff_eq, Bool.true_and, ne_eq, Decidable.not_not, Int.not_lt, Int.not_le, Nat.not_lt, Nat.not_le, strB_nil, strB_nil', strB_nnil, strB_nnil'] at h4
        refine run_seq ?_
        refine run_region (q_assign .n (.c rfl) rfl <|
            Lex.nil) ?_
        exact run_ret [] (.cons (.t rfl rfl) .nil) rfl trivial rfl
      · try simp only [Bool.and_eq_true, Bool.or_eq_true, Bool.not_eq_true', Bool.and_eq_false_iff, Bool.or_eq_false_iff, Bool.not_eq_false', decide_eq_true_eq, decide_eq_false_iff_not, beq_iff_eq, bne_iff_ne, beq_eq_false_iff_ne, bne_eq_false_iff_eq, Bool.true_and, ne_eq, Decidable.not_not, Int.not_lt, Int.not_le, Nat.not_lt, Nat.not_le, strB_nil, strB_nil', strB_nnil, strB_nnil'] at h4
        refine run_skip ?_
        refine run_endB ?_
        refine run_region (q_add .n (.t rfl) (.c rfl) (fun _ => by first | omega | assumption | (simp only [List.length_append, List.length_cons, List.length_nil, List.length_replicate, put_len] at * <;> omega)) rfl <|
            q_move .n (.t rfl) rfl <|
            Lex.nil) ?_
        exact run_again (x1 + 1) ⟨by first | omega | assumption | (simp only [List.length_append, List.length_cons, List.length_nil, List.length_replicate, put_len] at * <;> omega), by first | omega | assumption | (simp only [List.length_append, List.length_cons, List.length_nil, List.length_replicate, put_len] at * <;> omega)⟩ (by first | omega | assumption | (simp only [List.length_append, List.length_cons, List.length_nil, List.length_replicate, put_len] at * <;> omega)) (sub_of [] ⟨rfl, rfl, rfl, trivial⟩ trivial rfl)
    · try simp only [Bool.and_eq_true, Bool.or_eq_true, Bool.not_eq_true', Bool.and_eq_false_iff, Bool.or_eq_false_iff, Bool.not_eq_false', decide_eq_true_eq, decide_eq_false_iff_not, beq_iff_eq, bne_iff_ne, beq_eq_false_iff_ne, bne_eq_false_iff_eq, Bool.true_and, ne_eq, Decidable.not_not, Int.not_lt, Int.not_le, Nat.not_lt, Nat.not_le, strB_nil, strB_nil', strB_nnil, strB_nnil'] at h3
      refine run_exit rfl ?_
      exact run_cont hk1 x1 ⟨by first | omega | assumption | (simp only [List.length_append, List.length_cons, List.length_nil, List.length_replicate, put_len] at * <;> omega), by first | omega | assumption | (simp only [List.length_append, List.length_cons, List.length_nil, List.length_replicate, put_len] at * <;> omega), by first | omega | assumption | (simp only [List.length_append, List.length_cons, List.length_nil, List.length_replicate, put_len] at * <;> omega)⟩ (sub_of [] trivial trivial rfl)

/-! ### impl_IsName -/
theorem c_impl_IsName (s_ : List UInt8) : Con Tryd.prog 57 [.str s_] [] (.bool (m_impl_IsName s_)) ([]) := by
  refine con_intro (out := fun r : Bool => ((.bool r : V), ([] : List (Nat × Option O)))) (r := (m_impl_IsName s_)) Tryd.func57 rfl Tryd.ntmps57 rfl ?_
  refine run_seq ?_
  refine run_region (q_assign .n (.c rfl) rfl <|
      Lex.nil) ?_
  refine run_seq ?_
  refine run_seq ?_
  refine run_region (q_move .n (.t rfl) rfl <|
      q_len .n (.t rfl) rfl rfl st_9 rfl <|
      q_int .n (.t rfl) (.c rfl) rfl rfl <|
      q_move .n (.t rfl) rfl <|
      q_move (.f rfl rfl) (.t rfl) rfl <|
      q_len (.f rfl rfl) (.u rfl id) rfl rfl st_9 rfl <|
      q_int (.f rfl rfl) (.u rfl id) (.c rfl) rfl rfl <|
      q_or .n (.t rfl) (.u rfl id) rfl <|
      q_move .n (.t rfl) rfl <|
      q_move (.f rfl rfl) (.t rfl) rfl <|
      q_strat (.f rfl rfl) (.u rfl id) (.c rfl) st_9 (fun hg => by simp only [Bool.and_eq_true, Bool.or_eq_true, Bool.not_eq_true', Bool.and_eq_false_iff, Bool.or_eq_false_iff, Bool.not_eq_false', decide_eq_true_eq, decide_eq_false_iff_not, beq_iff_eq, bne_iff_ne, beq_eq_false_iff_ne, bne_eq_false_iff_eq, Bool.true_and, ne_eq, Decidable.not_not, Int.not_lt, Int.not_le, Nat.not_lt, Nat.not_le, strB_nil, strB_nil', strB_nnil, strB_nnil'] at hg; first | omega | assumption | (simp only [List.length_append, List.length_cons, List.length_nil, List.length_replicate, put_len] at * <;> omega)) rfl <|
      q_int (.f rfl rfl) (.u rfl id) (.c rfl) rfl rfl <|
      q_or .n (.t rfl) (.u rfl id) rfl <|
      q_move .n (.t rfl) rfl <|
      q_move (.f rfl rfl) (.t rfl) rfl <|
      q_strat (.f rfl rfl) (.u rfl id) (.c rfl) st_9 (fun hg => by simp only [Bool.and_eq_true, Bool.or_eq_true, Bool.not_eq_true', Bool.and_eq_false_iff, Bool.or_eq_false_iff, Bool.not_eq_false', decide_eq_true_eq, decide_eq_false_iff_not, beq_iff_eq, bne_iff_ne, beq_eq_false_iff_ne, bne_eq_false_iff_eq, Bool.true_and, ne_eq, Decidable.not_not, Int.not_lt, Int.not_le, Nat.not_lt, Nat.not_le, strB_nil, strB_nil', strB_nnil, strB_nnil'] at hg; first | omega | assumption | (simp only [List.length_append, List.length_cons, List.length_nil, List.length_replicate, put_len] at * <;> omega)) rfl <|
      q_int (.f rfl rfl) (.u rfl id) (.c rfl) rfl rfl <|
      q_or .n (.t rfl) (.u rfl id) rfl <|
      Lex.nil) ?_
  refine run_cond (.t rfl) rfl (fun h1 => ?_) (fun h1 => ?_)
  · try simp only [Bool.and_eq_true, Bool.or_eq_true, Bool.not_eq_true', Bool.and_eq_false_iff, Bool.or_eq_false_iff, Bool.not_eq_false', decide_eq_true_eq, decide_eq_false_iff_not, beq_iff_eq, bne_iff_ne, beq_eq_false_iff_ne, bne_eq_false_iff_eq, Bool.true_and, ne_eq, Decidable.not_not, Int.not_lt, Int.not_le, Nat.not_lt, Nat.not_le, strB_nil, strB_nil', strB_nnil, strB_nnil'] at h1
    refine run_seq ?_
    refine run_region (q_assign .n (.c rfl) rfl <|
        Lex.nil) ?_
    exact run_ret [] (.cons (.t rfl rfl) .nil) rfl trivial rfl
  · try simp only [Bool.and_eq_true, Bool.or_eq_true, Bool.not_eq_true', Bool.and_eq_false_iff, Bool.or_eq_false_iff, Bool.not_eq_false', decide_eq_true_eq, decide_eq_false_iff_not, beq_iff_eq, bne_iff_ne, beq_eq_false_iff_ne, bne_eq_false_iff_eq, Bool.true_and, ne_eq, Decidable.not_not, Int.not_lt, Int.not_le, Nat.not_lt, Nat.not_le, strB_nil, strB_nil', strB_nnil, strB_nnil'] at h1
    refine run_skip ?_
    refine run_seq ?_
    refine run_region (q_move .n (.t rfl) rfl <|
        q_call0 (full := false) .n .f en_74 (.cons (.t rfl) .nil) (.cons (.b (.a (.same rfl))) .nil) (fun hg => c_impl_onlyNameBytes s_ (by first | omega | assumption | (simp only [List.length_append, List.length_cons, List.length_nil, List.length_replicate, put_len] at * <;> omega))) rfl (fun h => Bool.noConfusion h) rfl <|
        q_assign .n (.t rfl) rfl <|
        Lex.nil) ?_
    exact run_ret [] (.cons (.t rfl rfl) .nil) rfl trivial rfl

/-! ### impl_Setting_valid -/
theorem c_impl_Setting_valid (x_ : gSetting) : Con Tryd.prog 64 [.st [.str x_.Name, .int .i64 x_.Value]] [] (.bool (m_impl_Setting_valid x_)) ([]) := by
  refine con_intro (out := fun r : Bool => ((.bool r : V), ([] : List (Nat × Option O)))) (r := (m_impl_Setting_valid x_)) Tryd.func64 rfl Tryd.ntmps64 rfl ?_
  refine run_seq ?_
  refine run_region (q_box (l := 200) .n rfl (.t rfl) rfl rfl rfl rfl <|
      q_assign .n (.c rfl) rfl <|
      Lex.nil) ?_
  refine run_seq ?_
  refine run_region (q_fld_ow .n (.t rfl) fo_78_0 rfl <|
      q_ld1_ow .n (.t rfl) rfl (.inr rfl) (fun _ => rfl) rfl ic_9 rfl <|
      q_call0 (full := false) .n .f en_57 (.cons (.t rfl) .nil) (.cons (.b (.a (.same rfl))) .nil) (fun hg => c_impl_IsName x_.Name) rfl (fun h => Bool.noConfusion h) rfl <|
      q_move .n (.t rfl) rfl <|
      q_fld_ow (.t rfl rfl) (.t rfl) fo_78_1 rfl <|
      q_ld1_ow (.t rfl rfl) (.u rfl id) rfl (.inr rfl) (fun _ => rfl) rfl ic_2 rfl <|
      q_call0 (full := false) (.t rfl rfl) .f en_45 (.cons (.u rfl id) (.cons (.c rfl) (.cons (.c rfl) .nil))) (.cons (.b (.a (.same rfl))) (.cons (.b (.a (.same rfl))) (.cons (.b (.a (.same rfl))) .nil))) (fun hg => c_impl_within x_.Value 0 1000) rfl (fun h => Bool.noConfusion h) rfl <|
      q_and .n (.t rfl) (.u rfl id) rfl <|
      q_assign .n (.t rfl) rfl <|
      Lex.nil) ?_
  exact run_ret [] (.cons (.t rfl rfl) .nil) rfl trivial rfl

/-! ### impl_ValidState -/
theorem c_impl_ValidState (list : List gSetting) : Con Tryd.prog 47 [.sl 2 (list.map gSetting.v)] [] (.bool (m_impl_ValidState list)) ([]) := by
  refine con_intro (out := fun r : Bool => ((.bool r : V), ([] : List (Nat × Option O)))) (r := (m_impl_ValidState list)) Tryd.func47 rfl Tryd.ntmps47 rfl ?_
  refine run_fact (t := 0) rfl fun hl => ?_
  have l1 := hl; clear hl; simp only [List.length_map] at l1
  refine run_seq ?_
  refine run_region (q_assign .n (.c rfl) rfl <|
      Lex.nil) ?_
  refine run_seq ?_
  refine run_seq ?_
  refine run_region (q_move .n (.t rfl) rfl <|
      q_len .n (.t rfl) rfl len_map ss_48 rfl <|
      q_int .n (.t rfl) (.c rfl) rfl rfl <|
      Lex.nil) ?_
  refine run_cond (.t rfl) rfl (fun h2 => ?_) (fun h2 => ?_)
  · try simp only [Bool.and_eq_true, Bool.or_eq_true, Bool.not_eq_true', Bool.and_eq_false_iff, Bool.or_eq_false_iff, Bool.not_eq_false', decide_eq_true_eq, decide_eq_false_iff_not, beq_iff_eq, bne_iff_ne, beq_eq_false_iff_ne, bne_eq_false_iff_eq, Bool.true_and, ne_eq, Decidable.not_not, Int.not_lt, Int.not_le, Nat.not_lt, Nat.not_le, strB_nil, strB_nil', strB_nnil, strB_nnil'] at h2
    refine run_seq ?_
    refine run_region (q_assign .n (.c rfl) rfl <|
        Lex.nil) ?_
    exact run_ret [] (.cons (.t rfl rfl) .nil) rfl trivial rfl
  · try simp only [Bool.and_eq_true, Bool.or_eq_true, Bool.not_eq_true', Bool.and_eq_false_iff, Bool.or_eq_false_iff, Bool.not_eq_false', decide_eq_true_eq, decide_eq_false_iff_not, beq_iff_eq, bne_iff_ne, beq_eq_false_iff_ne, bne_eq_false_iff_eq, Bool.true_and, ne_eq, Decidable.not_not, Int.not_lt, Int.not_le, Nat.not_lt, Nat.not_le, strB_nil, strB_nil', strB_nnil, strB_nnil'] at h2
    refine run_skip ?_
    refine run_seq ?_
    refine run_seq ?_
    refine run_region (q_move .n (.t rfl) rfl <|
        q_len .n (.t rfl) rfl len_map ss_48 rfl <|
        q_move .n (.c rfl) rfl <|
        Lex.nil) ?_
    refine run_block ?_
    refine run_LOOP (m_impl_ValidState_b1 list) _ _ _ rfl (fun (x1 : Int) => 0 ≤ x1 ∧ x1 ≤ (list.length : Int)) (fun x1 => 0 ≤ x1 ∧ x1 ≤ (list.length : Int) ∧ (list.length : Int) ≤ x1) (fun x1 => ((list.length : Int) - x1 : Int).toNat) (fun x1 => ⟨[(0, some (true, .sl 2 (list.map gSetting.v))), (8, some (true, .sl 2 (list.map gSetting.v))), (9, some (true, .int .i64 (list.length : Int))), (10, some (true, .int .i64 x1))], []⟩) (fun x1 => ⟨[], []⟩) ⟨by first | omega | assumption | (simp only [List.length_append, List.length_cons, List.length_nil, List.length_replicate, put_len] at * <;> omega), by first | omega | assumption | (simp only [List.length_append, List.length_cons, List.length_nil, List.length_replicate, put_len] at * <;> omega)⟩ (by first | omega | assumption | (simp only [List.length_append, List.length_cons, List.length_nil, List.length_replicate, put_len] at * <;> omega)) (sub_of [] ⟨rfl, rfl, rfl, rfl, trivial⟩ trivial rfl) ?_ ?_
    · intro x1 i7
      obtain ⟨e8, e9, e10⟩ := i7
      try dsimp only at *
      refine run_seq ?_
      refine run_region (q_assign .n (.c rfl) rfl <|
          Lex.nil) ?_
      exact run_ret [] (.cons (.t rfl rfl) .nil) rfl trivial rfl
    · intro rec1 k1 hk3 x1 i4
      obtain ⟨e11, e12⟩ := i4
      try dsimp only at *
      refine run_seq ?_
      refine run_region (q_int .n (.t rfl) (.t rfl) rfl rfl <|
          Lex.nil) ?_
      refine run_seq ?_
      refine run_cond (.t rfl) rfl (fun h5 => ?_) (fun h5 => ?_)
      · try simp only [Bool.and_eq_true, Bool.or_eq_true, Bool.not_eq_true', Bool.and_eq_false_iff, Bool.or_eq_false_iff, Bool.not_eq_false', decide_eq_true_eq, decide_eq_false_iff_not, beq_iff_eq, bne_iff_ne, beq_eq_false_iff_ne, bne_eq_false_iff_eq, Bool.true_and, ne_eq, Decidable.not_not, Int.not_lt, Int.not_le, Nat.not_lt, Nat.not_le, strB_nil, strB_nil', strB_nnil, strB_nnil'] at h5
        refine run_skip ?_
        refine run_seq ?_
        refine run_block ?_
        refine run_seq ?_
        refine run_region (q_move .n (.t rfl) rfl <|
            q_idx_rm .n (.t rfl) (.t rfl) sl_48 (fun _ => by first | omega | assumption | (simp only [List.length_append, List.length_cons, List.length_nil, List.length_replicate, put_len] at * <;> omega)) rfl <|
            q_ldN_ro .n (.t rfl) ag_78 rfl rfl rfl <|
            q_alloc (l := 200) .n rfl zv_78 rfl rfl <|
            q_assign .n (.t rfl) rfl <|
            q_st_boxm [.str (at' list x1).Name, .int .i64 (at' list x1).Value] .n rfl (.t rfl) (.t rfl) rfl ts_78 rfl rfl <|
            Lex.nil) ?_
        refine run_seq ?_
        refine run_draw fmo (q_ldN_ow .n (.t rfl) rfl (.inr rfl) ag_78 (fun _ => rfl) rfl rfl <|
            q_call0 (full := false) .n .f en_64 (.cons (.t rfl) .nil) (.cons (.sts rfl) .nil) (fun hg => c_impl_Setting_valid (at' list x1)) rfl (fun h => Bool.noConfusion h) rfl <|
            q_not .n (.t rfl) rfl <|
            q_move .n (.t rfl) rfl <|
            q_move (.f rfl rfl) (.t rfl) rfl <|
            q_int (.f rfl rfl) (.u rfl id) (.c rfl) rfl rfl <|
            q_move (.f rfl rfl) (.u rfl id) rfl <|
            q_fld_ow (.t rfl rfl) (.t rfl) fo_78_0 rfl <|
            q_ld1_ow (.t rfl rfl) (.u rfl id) rfl (.inr rfl) (fun _ => rfl) rfl ic_9 rfl <|
            q_move (.t rfl rfl) (.t rfl) rfl <|
            q_move (.t rfl rfl) (.t rfl) rfl <|
            q_sub (.t rfl rfl) (.u rfl id) (.c rfl) (fun hg => by simp only [Bool.and_eq_true, Bool.or_eq_true, Bool.not_eq_true', Bool.and_eq_false_iff, Bool.or_eq_false_iff, Bool.not_eq_false', decide_eq_true_eq, decide_eq_false_iff_not, beq_iff_eq, bne_iff_ne, beq_eq_false_iff_ne, bne_eq_false_iff_eq, Bool.true_and, ne_eq, Decidable.not_not, Int.not_lt, Int.not_le, Nat.not_lt, Nat.not_le, strB_nil, strB_nil', strB_nnil, strB_nnil'] at hg; first | omega | assumption | (simp only [List.length_append, List.length_cons, List.length_nil, List.length_replicate, put_len] at * <;> omega)) rfl <|
            q_idx_rm (.t rfl rfl) (.u rfl id) (.u rfl id) sl_48 (fun hg => by simp only [Bool.and_eq_true, Bool.or_eq_true, Bool.not_eq_true', Bool.and_eq_false_iff, Bool.or_eq_false_iff, Bool.not_eq_false', decide_eq_true_eq, decide_eq_false_iff_not, beq_iff_eq, bne_iff_ne, beq_eq_false_iff_ne, bne_eq_false_iff_eq, Bool.true_and, ne_eq, Decidable.not_not, Int.not_lt, Int.not_le, Nat.not_lt, Nat.not_le, strB_nil, strB_nil', strB_nnil, strB_nnil'] at hg; first | omega | assumption | (simp only [List.length_append, List.length_cons, List.length_nil, List.length_replicate, put_len] at * <;> omega)) rfl <|
            q_fld_ro (.t rfl rfl) (.u rfl id) fo_78_0 rfl <|
            q_ld1_ro (.t rfl rfl) (.u rfl id) rfl ic_9 rfl <|
            q_strcmp (.t rfl rfl) (.u rfl id) (.u rfl id) rfl rfl <|
            q_and (.f rfl rfl) (.u rfl id) (.u rfl id) rfl <|
            q_or .n (.t rfl) (.u rfl id) rfl <|
            Lex.nil) (by kernel_rfl) ?_
        refine run_cond (.t rfl) rfl (fun h6 => ?_) (fun h6 => ?_)
        · try simp only [Bool.and_eq_true, Bool.or_eq_true, Bool.not_eq_true', Bool.and_eq_false_iff, Bool.or_eq_false_iff, Bool.not_eq_false', decide_eq_true_eq, decide_eq_false_iff_not, beq_iff_eq, bne_iff_ne, beq_eq_false_iff_ne, bne_eq_false_iff_eq, Bool.true_and, ne_eq, Decidable.not_not, Int.not_lt, Int.not_le, Nat.not_lt, Nat.not_le, strB_nil, strB_nil', strB_nnil, strB_nnil'] at h6
          refine run_seq ?_
          refine run_region (q_assign .n (.c rfl) rfl <|
              Lex.nil) ?_
          exact run_ret [] (.cons (.t rfl rfl) .nil) rfl trivial rfl
        · try simp only [Bool.and_eq_true, Bool.or_eq_true, Bool.not_eq_true', Bool.and_eq_false_iff, Bool.or_eq_false_iff, Bool.not_eq_false', decide_eq_true_eq, decide_eq_false_iff_not, beq_iff_eq, bne_iff_ne, beq_eq_false_iff_ne, bne_eq_false_iff_eq, Bool.true_and, ne_eq, Decidable.not_not, Int.not_lt, Int.not_le, Nat.not_lt, Nat.not_le, strB_nil, strB_nil', strB_nnil, strB_nnil'] at h6
          refine run_skip ?_
          refine run_endB ?_
          refine run_region (q_add .n (.t rfl) (.c rfl) (fun _ => by first | omega | assumption | (simp only [List.length_append, List.length_cons, List.length_nil, List.length_replicate, put_len] at * <;> omega)) rfl <|
              q_move .n (.t rfl) rfl <|
              Lex.nil) ?_
          exact run_again (x1 + 1) ⟨by first | omega | assumption | (simp only [List.length_append, List.length_cons, List.length_nil, List.length_replicate, put_len] at * <;> omega), by first | omega | assumption | (simp only [List.length_append, List.length_cons, List.length_nil, List.length_replicate, put_len] at * <;> omega)⟩ (by first | omega | assumption | (simp only [List.length_append, List.length_cons, List.length_nil, List.length_replicate, put_len] at * <;> omega)) (sub_of [] ⟨rfl, rfl, rfl, rfl, trivial⟩ trivial rfl)
      · try simp only [Bool.and_eq_true, Bool.or_eq_true, Bool.not_eq_true', Bool.and_eq_false_iff, Bool.or_eq_false_iff, Bool.not_eq_false', decide_eq_true_eq, decide_eq_false_iff_not, beq_iff_eq, bne_iff_ne, beq_eq_false_iff_ne, bne_eq_false_iff_eq, Bool.true_and, ne_eq, Decidable.not_not, Int.not_lt, Int.not_le, Nat.not_lt, Nat.not_le, strB_nil, strB_nil', strB_nnil, strB_nnil'] at h5
        refine run_exit rfl ?_
        exact run_cont hk3 x1 ⟨by first | omega | assumption | (simp only [List.length_append, List.length_cons, List.length_nil, List.length_replicate, put_len] at * <;> omega), by first | omega | assumption | (simp only [List.length_append, List.length_cons, List.length_nil, List.length_replicate, put_len] at * <;> omega), by first | omega | assumption | (simp only [List.length_append, List.length_cons, List.length_nil, List.length_replicate, put_len] at * <;> omega)⟩ (sub_of [] trivial trivial rfl)

/-! ### strconv_FormatInt -/


/-! ### impl_Decimal -/
theorem c_impl_Decimal (n_ : Int) (hp1 : -9223372036854775808 ≤ n_ ∧ n_ ≤ 9223372036854775807) : Con Tryd.prog 48 [.int .i64 n_] [] (.str (m_impl_Decimal n_)) ([]) := by
  refine con_intro (out := fun r : (List UInt8) => ((.str r : V), ([] : List (Nat × Option O)))) (r := (m_impl_Decimal n_)) Tryd.func48 rfl Tryd.ntmps48 rfl ?_
  refine run_seq ?_
  refine run_region (q_assign .n (.c rfl) rfl <|
      Lex.nil) ?_
  refine run_seq ?_
  refine run_region (q_move .n (.t rfl) rfl <|
      q_call0 (full := false) .n .f en_65 (.cons (.t rfl) (.cons (.c rfl) .nil)) (.cons (.b (.a (.same rfl))) (.cons (.b (.a (.same rfl))) .nil)) (fun hg => c_strconv_FormatInt n_ 10 (by first | omega | assumption | (simp only [List.length_append, List.length_cons, List.length_nil, List.length_replicate, put_len] at * <;> omega)) (by first | omega | assumption | (simp only [List.length_append, List.length_cons, List.length_nil, List.length_replicate, put_len] at * <;> omega))) rfl (fun h => Bool.noConfusion h) rfl <|
      q_assign .n (.t rfl) rfl <|
      Lex.nil) ?_
  exact run_ret [] (.cons (.t rfl rfl) .nil) rfl trivial rfl

/-! ### impl_VersionText -/
theorem c_impl_VersionText (v : gVersion) (hp1 : v.Memo.length ≤ 1048576) : Con Tryd.prog 23 [.st [.int .i64 v.Number, .int .i64 v.Parent, .str v.Memo, .sl 2 (v.State.map gSetting.v)]] [] (.str (m_impl_VersionText v)) ([]) := by
  refine con_intro (out := fun r : (List UInt8) => ((.str r : V), ([] : List (Nat × Option O)))) (r := (m_impl_VersionText v)) Tryd.func23 rfl Tryd.ntmps23 rfl ?_
  refine run_factS (t := 0) 3 rfl rfl fun hl => ?_
  have l1 := hl; clear hl; simp only [List.length_map] at l1
  refine run_seq ?_
  refine run_region (q_box (l := 200) .n rfl (.t rfl) rfl rfl rfl rfl <|
      q_assign .n (.c rfl) rfl <|
      Lex.nil) ?_
  refine run_seq ?_
  refine run_seq ?_
  refine run_region (q_fld_ow .n (.t rfl) fo_50_0 rfl <|
      q_ld1_ow .n (.t rfl) rfl (.inr rfl) (fun _ => rfl) rfl ic_2 rfl <|
      q_call0 (full := false) .n .f en_45 (.cons (.t rfl) (.cons (.c rfl) (.cons (.c rfl) .nil))) (.cons (.b (.a (.same rfl))) (.cons (.b (.a (.same rfl))) (.cons (.b (.a (.same rfl))) .nil))) (fun hg => c_impl_within v.Number 1 32) rfl (fun h => Bool.noConfusion h) rfl <|
      q_not .n (.t rfl) rfl <|
      q_move .n (.t rfl) rfl <|
      q_fld_ow (.f rfl rfl) (.t rfl) fo_50_1 rfl <|
      q_ld1_ow (.f rfl rfl) (.u rfl id) rfl (.inr rfl) (fun _ => rfl) rfl ic_2 rfl <|
      q_fld_ow (.f rfl rfl) (.t rfl) fo_50_0 rfl <|
      q_ld1_ow (.f rfl rfl) (.u rfl id) rfl (.inr rfl) (fun _ => rfl) rfl ic_2 rfl <|
      q_int (.f rfl rfl) (.u rfl id) (.c rfl) rfl rfl <|
      q_call0 (full := false) (.f rfl rfl) .f en_45 (.cons (.u rfl id) (.cons (.c rfl) (.cons (.u rfl id) .nil))) (.cons (.b (.a (.same rfl))) (.cons (.b (.a (.same rfl))) (.cons (.b (.a (.same rfl))) .nil))) (fun hg => c_impl_within v.Parent 0 (IntKind.wrap .i64 (v.Number - 1))) rfl (fun h => Bool.noConfusion h) rfl <|
      q_not (.f rfl rfl) (.u rfl id) rfl <|
      q_or .n (.t rfl) (.u rfl id) rfl <|
      q_move .n (.t rfl) rfl <|
      q_fld_ow (.f rfl rfl) (.t rfl) fo_50_2 rfl <|
      q_ld1_ow (.f rfl rfl) (.u rfl id) rfl (.inr rfl) (fun _ => rfl) rfl ic_9 rfl <|
      q_call0 (full := false) (.f rfl rfl) .f en_46 (.cons (.u rfl id) .nil) (.cons (.b (.a (.same rfl))) .nil) (fun hg => c_impl_memoValid v.Memo) rfl (fun h => Bool.noConfusion h) rfl <|
      q_not (.f rfl rfl) (.u rfl id) rfl <|
      q_or .n (.t rfl) (.u rfl id) rfl <|
      q_move .n (.t rfl) rfl <|
      q_fld_ow (.f rfl rfl) (.t rfl) fo_50_3 rfl <|
      q_ld1_ow (.f rfl rfl) (.u rfl id) rfl (.inr rfl) (fun _ => rfl) rfl ic_48 rfl <|
      q_call0 (full := false) (.f rfl rfl) .f en_47 (.cons (.u rfl id) .nil) (.cons (.b (.a (.same rfl))) .nil) (fun hg => c_impl_ValidState v.State) rfl (fun h => Bool.noConfusion h) rfl <|
      q_not (.f rfl rfl) (.u rfl id) rfl <|
      q_or .n (.t rfl) (.u rfl id) rfl <|
      Lex.nil) ?_
  refine run_cond (.t rfl) rfl (fun h2 => ?_) (fun h2 => ?_)
  · try simp only [Bool.and_eq_true, Bool.or_eq_true, Bool.not_eq_true', Bool.and_eq_false_iff, Bool.or_eq_false_iff, Bool.not_eq_false', decide_eq_true_eq, decide_eq_false_iff_not, beq_iff_eq, bne_iff_ne, beq_eq_false_iff_ne, bne_eq_false_iff_eq, Bool.true_and, ne_eq, Decidable.not_not, Int.not_lt, Int.not_le, Nat.not_lt, Nat.not_le, strB_nil, strB_nil', strB_nnil, strB_nnil'] at h2
    try have hf0h2 := within_imp h2
    try have hf1h2 := within_imp h2.1
    try have hf2h2 := within_imp h2.2
    try have hf3h2 := within_imp h2.1.1
    try have hf4h2 := within_imp h2.1.2
    try have hf5h2 := within_imp h2.2.1
    try have hf6h2 := within_imp h2.2.2
    try have hf7h2 := within_imp h2.1.1.1
    try have hf8h2 := within_imp h2.1.1.2
    try have hf9h2 := state_inI h2
    try have hf10h2 := state_inI h2.1
    try have hf11h2 := state_inI h2.2
    try have hf12h2 := state_inI h2.1.1
    try have hf13h2 := state_inI h2.1.2
    try have hf14h2 := state_inI h2.2.1
    try have hf15h2 := state_inI h2.2.2
    try have hf16h2 := state_inI h2.1.1.1
    try have hf17h2 := state_inI h2.1.1.2
    try have hf18h2 := memo_lenI h2
    try have hf19h2 := memo_lenI h2.1
    try have hf20h2 := memo_lenI h2.2
    try have hf21h2 := memo_lenI h2.1.1
    try have hf22h2 := memo_lenI h2.1.2
    try have hf23h2 := memo_lenI h2.2.1
    try have hf24h2 := memo_lenI h2.2.2
    try have hf25h2 := memo_lenI h2.1.1.1
    try have hf26h2 := memo_lenI h2.1.1.2
    refine run_seq ?_
    refine run_region (q_assign .n (.c rfl) rfl <|
        Lex.nil) ?_
    exact run_ret [] (.cons (.t rfl rfl) .nil) rfl trivial rfl
  · try simp only [Bool.and_eq_true, Bool.or_eq_true, Bool.not_eq_true', Bool.and_eq_false_iff, Bool.or_eq_false_iff, Bool.not_eq_false', decide_eq_true_eq, decide_eq_false_iff_not, beq_iff_eq, bne_iff_ne, beq_eq_false_iff_ne, bne_eq_false_iff_eq, Bool.true_and, ne_eq, Decidable.not_not, Int.not_lt, Int.not_le, Nat.not_lt, Nat.not_le, strB_nil, strB_nil', strB_nnil, strB_nnil'] at h2
    try have hf0h2 := within_imp h2
    try have hf1h2 := within_imp h2.1
    try have hf2h2 := within_imp h2.2
    try have hf3h2 := within_imp h2.1.1
    try have hf4h2 := within_imp h2.1.2
    try have hf5h2 := within_imp h2.2.1
    try have hf6h2 := within_imp h2.2.2
    try have hf7h2 := within_imp h2.1.1.1
    try have hf8h2 := within_imp h2.1.1.2
    try have hf9h2 := state_inI h2
    try have hf10h2 := state_inI h2.1
    try have hf11h2 := state_inI h2.2
    try have hf12h2 := state_inI h2.1.1
    try have hf13h2 := state_inI h2.1.2
    try have hf14h2 := state_inI h2.2.1
    try have hf15h2 := state_inI h2.2.2
    try have hf16h2 := state_inI h2.1.1.1
    try have hf17h2 := state_inI h2.1.1.2
    try have hf18h2 := memo_lenI h2
    try have hf19h2 := memo_lenI h2.1
    try have hf20h2 := memo_lenI h2.2
    try have hf21h2 := memo_lenI h2.1.1
    try have hf22h2 := memo_lenI h2.1.2
    try have hf23h2 := memo_lenI h2.2.1
    try have hf24h2 := memo_lenI h2.2.2
    try have hf25h2 := memo_lenI h2.1.1.1
    try have hf26h2 := memo_lenI h2.1.1.2
    refine run_skip ?_
    refine run_seq ?_
    refine run_draw fmo (q_fld_ow .n (.t rfl) fo_50_0 rfl <|
        q_ld1_ow .n (.t rfl) rfl (.inr rfl) (fun _ => rfl) rfl ic_2 rfl <|
        q_call0 (full := false) .n .f en_48 (.cons (.t rfl) .nil) (.cons (.b (.a (.same rfl))) .nil) (fun hg => c_impl_Decimal v.Number (by first | omega | assumption | (simp only [List.length_append, List.length_cons, List.length_nil, List.length_replicate, put_len] at * <;> omega) | ((have hw := wr64_le (n := v.Number - 1); omega)) | ((have hw := wr64_le (n := v.Number - 1); have h1_ := decimal_len (n := v.Number) (by omega); have h2_ := decimal_len (n := v.Parent) (by omega); simp <;> omega)) | ((have hS : StIn v.State := (by assumption); have hq := at_all (i := x1.2) hS.2 (by omega); have hl := hS.1; first | omega | (have hd := decimal_len (n := (at' v.State x1.2).Value) (by omega); simp <;> omega))) | ((have hS : StIn v.State := (by assumption); have hl := hS.1; first | omega | (simp <;> omega))))) rfl (fun h => Bool.noConfusion h) rfl <|
        q_strcat .n (.t rfl) (.c rfl) (fun _ => by first | omega | assumption | (simp only [List.length_append, List.length_cons, List.length_nil, List.length_replicate, put_len] at * <;> omega) | ((have hw := wr64_le (n := v.Number - 1); omega)) | ((have hw := wr64_le (n := v.Number - 1); have h1_ := decimal_len (n := v.Number) (by omega); have h2_ := decimal_len (n := v.Parent) (by omega); simp <;> omega)) | ((have hS : StIn v.State := (by assumption); have hq := at_all (i := x1.2) hS.2 (by omega); have hl := hS.1; first | omega | (have hd := decimal_len (n := (at' v.State x1.2).Value) (by omega); simp <;> omega))) | ((have hS : StIn v.State := (by assumption); have hl := hS.1; first | omega | (simp <;> omega)))) rfl <|
        q_fld_ow .n (.t rfl) fo_50_1 rfl <|
        q_ld1_ow .n (.t rfl) rfl (.inr rfl) (fun _ => rfl) rfl ic_2 rfl <|
        q_call0 (full := false) .n .f en_48 (.cons (.t rfl) .nil) (.cons (.b (.a (.same rfl))) .nil) (fun hg => c_impl_Decimal v.Parent (by first | omega | assumption | (simp only [List.length_append, List.length_cons, List.length_nil, List.length_replicate, put_len] at * <;> omega) | ((have hw := wr64_le (n := v.Number - 1); omega)) | ((have hw := wr64_le (n := v.Number - 1); have h1_ := decimal_len (n := v.Number) (by omega); have h2_ := decimal_len (n := v.Parent) (by omega); simp <;> omega)) | ((have hS : StIn v.State := (by assumption); have hq := at_all (i := x1.2) hS.2 (by omega); have hl := hS.1; first | omega | (have hd := decimal_len (n := (at' v.State x1.2).Value) (by omega); simp <;> omega))) | ((have hS : StIn v.State := (by assumption); have hl := hS.1; first | omega | (simp <;> omega))))) rfl (fun h => Bool.noConfusion h) rfl <|
        q_strcat .n (.t rfl) (.t rfl) (fun _ => by first | omega | assumption | (simp only [List.length_append, List.length_cons, List.length_nil, List.length_replicate, put_len] at * <;> omega) | ((have hw := wr64_le (n := v.Number - 1); omega)) | ((have hw := wr64_le (n := v.Number - 1); have h1_ := decimal_len (n := v.Number) (by omega); have h2_ := decimal_len (n := v.Parent) (by omega); simp <;> omega)) | ((have hS : StIn v.State := (by assumption); have hq := at_all (i := x1.2) hS.2 (by omega); have hl := hS.1; first | omega | (have hd := decimal_len (n := (at' v.State x1.2).Value) (by omega); simp <;> omega))) | ((have hS : StIn v.State := (by assumption); have hl := hS.1; first | omega | (simp <;> omega)))) rfl <|
        q_assign .n (.t rfl) rfl <|
        Lex.nil) (by kernel_rfl) ?_
    refine run_seq ?_
    refine run_seq ?_
    refine run_region (q_fld_ow .n (.t rfl) fo_50_3 rfl <|
        q_ld1_ow .n (.t rfl) rfl (.inr rfl) (fun _ => rfl) rfl ic_48 rfl <|
        q_len .n (.t rfl) rfl len_map ss_48 rfl <|
        q_move .n (.c rfl) rfl <|
        Lex.nil) ?_
    refine run_block ?_
    refine run_LOOP (m_impl_VersionText_b1 v) _ _ _ rfl (fun (x1 : (List UInt8) × Int) => 0 ≤ x1.2 ∧ x1.2 ≤ (v.State.length : Int) ∧ (x1.1.length : Int) ≤ 100 + 100 * x1.2) (fun x1 => 0 ≤ x1.2 ∧ x1.2 ≤ (v.State.length : Int) ∧ (x1.1.length : Int) ≤ 100 + 100 * x1.2 ∧ (v.State.length : Int) ≤ x1.2) (fun x1 => ((v.State.length : Int) - x1.2 : Int).toNat) (fun x1 => ⟨[(1, some (true, .op 200 0 0 0)), (3, some (true, .str x1.1)), (40, some (true, .sl 2 (v.State.map gSetting.v))), (41, some (true, .int .i64 (v.State.length : Int))), (42, some (true, .int .i64 x1.2))], [(200, some (.box 50 [.int .i64 v.Number, .int .i64 v.Parent, .str v.Memo, .sl 2 (v.State.map gSetting.v)]))]⟩) (fun x1 => ⟨[(1, some (true, .op 200 0 0 0)), (3, some (true, .str x1.1))], [(200, some (.box 50 [.int .i64 v.Number, .int .i64 v.Parent, .str v.Memo, .sl 2 (v.State.map gSetting.v)]))]⟩) ⟨by first | omega | assumption | (simp only [List.length_append, List.length_cons, List.length_nil, List.length_replicate, put_len] at * <;> omega) | ((have hw := wr64_le (n := v.Number - 1); omega)) | ((have hw := wr64_le (n := v.Number - 1); have h1_ := decimal_len (n := v.Number) (by omega); have h2_ := decimal_len (n := v.Parent) (by omega); simp <;> omega)) | ((have hS : StIn v.State := (by assumption); have hq := at_all (i := x1.2) hS.2 (by omega); have hl := hS.1; first | omega | (have hd := decimal_len (n := (at' v.State x1.2).Value) (by omega); simp <;> omega))) | ((have hS : StIn v.State := (by assumption); have hl := hS.1; first | omega | (simp <;> omega))), by first | omega | assumption | (simp only [List.length_append, List.length_cons, List.length_nil, List.length_replicate, put_len] at * <;> omega) | ((have hw := wr64_le (n := v.Number - 1); omega)) | ((have hw := wr64_le (n := v.Number - 1); have h1_ := decimal_len (n := v.Number) (by omega); have h2_ := decimal_len (n := v.Parent) (by omega); simp <;> omega)) | ((have hS : StIn v.State := (by assumption); have hq := at_all (i := x1.2) hS.2 (by omega); have hl := hS.1; first | omega | (have hd := decimal_len (n := (at' v.State x1.2).Value) (by omega); simp <;> omega))) | ((have hS : StIn v.State := (by assumption); have hl := hS.1; first | omega | (simp <;> omega))), by first | omega | assumption | (simp only [List.length_append, List.length_cons, List.length_nil, List.length_replicate, put_len] at * <;> omega) | ((have hw := wr64_le (n := v.Number - 1); omega)) | ((have hw := wr64_le (n := v.Number - 1); have h1_ := decimal_len (n := v.Number) (by omega); have h2_ := decimal_len (n := v.Parent) (by omega); simp <;> omega)) | ((have hS : StIn v.State := (by assumption); have hq := at_all (i := x1.2) hS.2 (by omega); have hl := hS.1; first | omega | (have hd := decimal_len (n := (at' v.State x1.2).Value) (by omega); simp <;> omega))) | ((have hS : StIn v.State := (by assumption); have hl := hS.1; first | omega | (simp <;> omega)))⟩ (by first | omega | assumption | (simp only [List.length_append, List.length_cons, List.length_nil, List.length_replicate, put_len] at * <;> omega) | ((have hw := wr64_le (n := v.Number - 1); omega)) | ((have hw := wr64_le (n := v.Number - 1); have h1_ := decimal_len (n := v.Number) (by omega); have h2_ := decimal_len (n := v.Parent) (by omega); simp <;> omega)) | ((have hS : StIn v.State := (by assumption); have hq := at_all (i := x1.2) hS.2 (by omega); have hl := hS.1; first | omega | (have hd := decimal_len (n := (at' v.State x1.2).Value) (by omega); simp <;> omega))) | ((have hS : StIn v.State := (by assumption); have hl := hS.1; first | omega | (simp <;> omega)))) (sub_of [] ⟨rfl, rfl, rfl, rfl, rfl, trivial⟩ ⟨rfl, trivial⟩ rfl) ?_ ?_
    · intro x1 i6
      obtain ⟨e8, e9, e10, e11⟩ := i6
      try dsimp only at *
      refine run_seq ?_
      refine run_seq ?_
      refine run_region (q_fld_ow .n (.t rfl) fo_50_2 rfl <|
          q_ld1_ow .n (.t rfl) rfl (.inr rfl) (fun _ => rfl) rfl ic_9 rfl <|
          q_strcmp .n (.t rfl) (.c rfl) rfl rfl <|
          Lex.nil) ?_
      refine run_cond (.t rfl) rfl (fun h7 => ?_) (fun h7 => ?_)
      · try simp only [Bool.and_eq_true, Bool.or_eq_true, Bool.not_eq_true', Bool.and_eq_false_iff, Bool.or_eq_false_iff, Bool.not_eq_false', decide_eq_true_eq, decide_eq_false_iff_not, beq_iff_eq, bne_iff_ne, beq_eq_false_iff_ne, bne_eq_false_iff_eq, Bool.true_and, ne_eq, Decidable.not_not, Int.not_lt, Int.not_le, Nat.not_lt, Nat.not_le, strB_nil, strB_nil', strB_nnil, strB_nnil'] at h7
        refine run_region (q_move .n (.t rfl) rfl <|
            q_fld_ow .n (.t rfl) fo_50_2 rfl <|
            q_ld1_ow .n (.t rfl) rfl (.inr rfl) (fun _ => rfl) rfl ic_9 rfl <|
            q_strcat .n (.c rfl) (.t rfl) (fun _ => by first | omega | assumption | (simp only [List.length_append, List.length_cons, List.length_nil, List.length_replicate, put_len] at * <;> omega) | ((have hw := wr64_le (n := v.Number - 1); omega)) | ((have hw := wr64_le (n := v.Number - 1); have h1_ := decimal_len (n := v.Number) (by omega); have h2_ := decimal_len (n := v.Parent) (by omega); simp <;> omega)) | ((have hS : StIn v.State := (by assumption); have hq := at_all (i := x1.2) hS.2 (by omega); have hl := hS.1; first | omega | (have hd := decimal_len (n := (at' v.State x1.2).Value) (by omega); simp <;> omega))) | ((have hS : StIn v.State := (by assumption); have hl := hS.1; first | omega | (simp <;> omega)))) rfl <|
            q_strcat .n (.t rfl) (.t rfl) (fun _ => by first | omega | assumption | (simp only [List.length_append, List.length_cons, List.length_nil, List.length_replicate, put_len] at * <;> omega) | ((have hw := wr64_le (n := v.Number - 1); omega)) | ((have hw := wr64_le (n := v.Number - 1); have h1_ := decimal_len (n := v.Number) (by omega); have h2_ := decimal_len (n := v.Parent) (by omega); simp <;> omega)) | ((have hS : StIn v.State := (by assumption); have hq := at_all (i := x1.2) hS.2 (by omega); have hl := hS.1; first | omega | (have hd := decimal_len (n := (at' v.State x1.2).Value) (by omega); simp <;> omega))) | ((have hS : StIn v.State := (by assumption); have hl := hS.1; first | omega | (simp <;> omega)))) rfl <|
            q_assign .n (.t rfl) rfl <|
            Lex.nil) ?_
        refine run_seq ?_
        refine run_region (q_move .n (.t rfl) rfl <|
            q_assign .n (.t rfl) rfl <|
            Lex.nil) ?_
        exact run_ret [] (.cons (.t rfl rfl) .nil) rfl trivial rfl
      · try simp only [Bool.and_eq_true, Bool.or_eq_true, Bool.not_eq_true', Bool.and_eq_false_iff, Bool.or_eq_false_iff, Bool.not_eq_false', decide_eq_true_eq, decide_eq_false_iff_not, beq_iff_eq, bne_iff_ne, beq_eq_false_iff_ne, bne_eq_false_iff_eq, Bool.true_and, ne_eq, Decidable.not_not, Int.not_lt, Int.not_le, Nat.not_lt, Nat.not_le, strB_nil, strB_nil', strB_nnil, strB_nnil'] at h7
        refine run_skip ?_
        refine run_seq ?_
        refine run_region (q_move .n (.t rfl) rfl <|
            q_assign .n (.t rfl) rfl <|
            Lex.nil) ?_
        exact run_ret [] (.cons (.t rfl rfl) .nil) rfl trivial rfl
    · intro rec1 k1 hk3 x1 i4
      obtain ⟨e12, e13, e14⟩ := i4
      try dsimp only at *
      refine run_seq ?_
      refine run_region (q_int .n (.t rfl) (.t rfl) rfl rfl <|
          Lex.nil) ?_
      refine run_seq ?_
      refine run_cond (.t rfl) rfl (fun h5 => ?_) (fun h5 => ?_)
      · try simp only [Bool.and_eq_true, Bool.or_eq_true, Bool.not_eq_true', Bool.and_eq_false_iff, Bool.or_eq_false_iff, Bool.not_eq_false', decide_eq_true_eq, decide_eq_false_iff_not, beq_iff_eq, bne_iff_ne, beq_eq_false_iff_ne, bne_eq_false_iff_eq, Bool.true_and, ne_eq, Decidable.not_not, Int.not_lt, Int.not_le, Nat.not_lt, Nat.not_le, strB_nil, strB_nil', strB_nnil, strB_nnil'] at h5
        refine run_skip ?_
        refine run_seq ?_
        refine run_block ?_
        refine run_seq ?_
        refine run_region (q_idx_rm .n (.t rfl) (.t rfl) sl_48 (fun _ => by first | omega | assumption | (simp only [List.length_append, List.length_cons, List.length_nil, List.length_replicate, put_len] at * <;> omega) | ((have hw := wr64_le (n := v.Number - 1); omega)) | ((have hw := wr64_le (n := v.Number - 1); have h1_ := decimal_len (n := v.Number) (by omega); have h2_ := decimal_len (n := v.Parent) (by omega); simp <;> omega)) | ((have hS : StIn v.State := (by assumption); have hq := at_all (i := x1.2) hS.2 (by omega); have hl := hS.1; first | omega | (have hd := decimal_len (n := (at' v.State x1.2).Value) (by omega); simp <;> omega))) | ((have hS : StIn v.State := (by assumption); have hl := hS.1; first | omega | (simp <;> omega)))) rfl <|
            q_ldN_ro .n (.t rfl) ag_78 rfl rfl rfl <|
            q_alloc (l := 201) .n rfl zv_78 rfl rfl <|
            q_st_boxm [.str (at' v.State x1.2).Name, .int .i64 (at' v.State x1.2).Value] .n rfl (.t rfl) (.t rfl) rfl ts_78 rfl rfl <|
            Lex.nil) ?_
        refine run_draw fmo (q_move .n (.t rfl) rfl <|
            q_fld_ow .n (.t rfl) fo_78_0 rfl <|
            q_ld1_ow .n (.t rfl) rfl (.inr rfl) (fun _ => rfl) rfl ic_9 rfl <|
            q_strcat .n (.c rfl) (.t rfl) (fun _ => by first | omega | assumption | (simp only [List.length_append, List.length_cons, List.length_nil, List.length_replicate, put_len] at * <;> omega) | ((have hw := wr64_le (n := v.Number - 1); omega)) | ((have hw := wr64_le (n := v.Number - 1); have h1_ := decimal_len (n := v.Number) (by omega); have h2_ := decimal_len (n := v.Parent) (by omega); simp <;> omega)) | ((have hS : StIn v.State := (by assumption); have hq := at_all (i := x1.2) hS.2 (by omega); have hl := hS.1; first | omega | (have hd := decimal_len (n := (at' v.State x1.2).Value) (by omega); simp <;> omega))) | ((have hS : StIn v.State := (by assumption); have hl := hS.1; first | omega | (simp <;> omega)))) rfl <|
            q_strcat .n (.t rfl) (.c rfl) (fun _ => by first | omega | assumption | (simp only [List.length_append, List.length_cons, List.length_nil, List.length_replicate, put_len] at * <;> omega) | ((have hw := wr64_le (n := v.Number - 1); omega)) | ((have hw := wr64_le (n := v.Number - 1); have h1_ := decimal_len (n := v.Number) (by omega); have h2_ := decimal_len (n := v.Parent) (by omega); simp <;> omega)) | ((have hS : StIn v.State := (by assumption); have hq := at_all (i := x1.2) hS.2 (by omega); have hl := hS.1; first | omega | (have hd := decimal_len (n := (at' v.State x1.2).Value) (by omega); simp <;> omega))) | ((have hS : StIn v.State := (by assumption); have hl := hS.1; first | omega | (simp <;> omega)))) rfl <|
            q_fld_ow .n (.t rfl) fo_78_1 rfl <|
            q_ld1_ow .n (.t rfl) rfl (.inr rfl) (fun _ => rfl) rfl ic_2 rfl <|
            q_call0 (full := false) .n .f en_48 (.cons (.t rfl) .nil) (.cons (.b (.a (.same rfl))) .nil) (fun hg => c_impl_Decimal (at' v.State x1.2).Value (by first | omega | assumption | (simp only [List.length_append, List.length_cons, List.length_nil, List.length_replicate, put_len] at * <;> omega) | ((have hw := wr64_le (n := v.Number - 1); omega)) | ((have hw := wr64_le (n := v.Number - 1); have h1_ := decimal_len (n := v.Number) (by omega); have h2_ := decimal_len (n := v.Parent) (by omega); simp <;> omega)) | ((have hS : StIn v.State := (by assumption); have hq := at_all (i := x1.2) hS.2 (by omega); have hl := hS.1; first | omega | (have hd := decimal_len (n := (at' v.State x1.2).Value) (by omega); simp <;> omega))) | ((have hS : StIn v.State := (by assumption); have hl := hS.1; first | omega | (simp <;> omega))))) rfl (fun h => Bool.noConfusion h) rfl <|
            q_strcat .n (.t rfl) (.t rfl) (fun _ => by first | omega | assumption | (simp only [List.length_append, List.length_cons, List.length_nil, List.length_replicate, put_len] at * <;> omega) | ((have hw := wr64_le (n := v.Number - 1); omega)) | ((have hw := wr64_le (n := v.Number - 1); have h1_ := decimal_len (n := v.Number) (by omega); have h2_ := decimal_len (n := v.Parent) (by omega); simp <;> omega)) | ((have hS : StIn v.State := (by assumption); have hq := at_all (i := x1.2) hS.2 (by omega); have hl := hS.1; first | omega | (have hd := decimal_len (n := (at' v.State x1.2).Value) (by omega); simp <;> omega))) | ((have hS : StIn v.State := (by assumption); have hl := hS.1; first | omega | (simp <;> omega)))) rfl <|
            q_strcat .n (.t rfl) (.t rfl) (fun _ => by first | omega | assumption | (simp only [List.length_append, List.length_cons, List.length_nil, List.length_replicate, put_len] at * <;> omega) | ((have hw := wr64_le (n := v.Number - 1); omega)) | ((have hw := wr64_le (n := v.Number - 1); have h1_ := decimal_len (n := v.Number) (by omega); have h2_ := decimal_len (n := v.Parent) (by omega); simp <;> omega)) | ((have hS : StIn v.State := (by assumption); have hq := at_all (i := x1.2) hS.2 (by omega); have hl := hS.1; first | omega | (have hd := decimal_len (n := (at' v.State x1.2).Value) (by omega); simp <;> omega))) | ((have hS : StIn v.State := (by assumption); have hl := hS.1; first | omega | (simp <;> omega)))) rfl <|
            q_assign .n (.t rfl) rfl <|
            Lex.nil) (by kernel_rfl) ?_
        refine run_endB ?_
        refine run_region (q_add .n (.t rfl) (.c rfl) (fun _ => by first | omega | assumption | (simp only [List.length_append, List.length_cons, List.length_nil, List.length_replicate, put_len] at * <;> omega) | ((have hw := wr64_le (n := v.Number - 1); omega)) | ((have hw := wr64_le (n := v.Number - 1); have h1_ := decimal_len (n := v.Number) (by omega); have h2_ := decimal_len (n := v.Parent) (by omega); simp <;> omega)) | ((have hS : StIn v.State := (by assumption); have hq := at_all (i := x1.2) hS.2 (by omega); have hl := hS.1; first | omega | (have hd := decimal_len (n := (at' v.State x1.2).Value) (by omega); simp <;> omega))) | ((have hS : StIn v.State := (by assumption); have hl := hS.1; first | omega | (simp <;> omega)))) rfl <|
            q_move .n (.t rfl) rfl <|
            Lex.nil) ?_
        exact run_again (x1.1 ++ (((([32] : List UInt8) ++ (at' v.State x1.2).Name) ++ ([61] : List UInt8)) ++ (m_impl_Decimal (at' v.State x1.2).Value)), x1.2 + 1) ⟨by first | omega | assumption | (simp only [List.length_append, List.length_cons, List.length_nil, List.length_replicate, put_len] at * <;> omega) | ((have hw := wr64_le (n := v.Number - 1); omega)) | ((have hw := wr64_le (n := v.Number - 1); have h1_ := decimal_len (n := v.Number) (by omega); have h2_ := decimal_len (n := v.Parent) (by omega); simp <;> omega)) | ((have hS : StIn v.State := (by assumption); have hq := at_all (i := x1.2) hS.2 (by omega); have hl := hS.1; first | omega | (have hd := decimal_len (n := (at' v.State x1.2).Value) (by omega); simp <;> omega))) | ((have hS : StIn v.State := (by assumption); have hl := hS.1; first | omega | (simp <;> omega))), by first | omega | assumption | (simp only [List.length_append, List.length_cons, List.length_nil, List.length_replicate, put_len] at * <;> omega) | ((have hw := wr64_le (n := v.Number - 1); omega)) | ((have hw := wr64_le (n := v.Number - 1); have h1_ := decimal_len (n := v.Number) (by omega); have h2_ := decimal_len (n := v.Parent) (by omega); simp <;> omega)) | ((have hS : StIn v.State := (by assumption); have hq := at_all (i := x1.2) hS.2 (by omega); have hl := hS.1; first | omega | (have hd := decimal_len (n := (at' v.State x1.2).Value) (by omega); simp <;> omega))) | ((have hS : StIn v.State := (by assumption); have hl := hS.1; first | omega | (simp <;> omega))), by first | omega | assumption | (simp only [List.length_append, List.length_cons, List.length_nil, List.length_replicate, put_len] at * <;> omega) | ((have hw := wr64_le (n := v.Number - 1); omega)) | ((have hw := wr64_le (n := v.Number - 1); have h1_ := decimal_len (n := v.Number) (by omega); have h2_ := decimal_len (n := v.Parent) (by omega); simp <;> omega)) | ((have hS : StIn v.State := (by assumption); have hq := at_all (i := x1.2) hS.2 (by omega); have hl := hS.1; first | omega | (have hd := decimal_len (n := (at' v.State x1.2).Value) (by omega); simp <;> omega))) | ((have hS : StIn v.State := (by assumption); have hl := hS.1; first | omega | (simp <;> omega)))⟩ (by first | omega | assumption | (simp only [List.length_append, List.length_cons, List.length_nil, List.length_replicate, put_len] at * <;> omega) | ((have hw := wr64_le (n := v.Number - 1); omega)) | ((have hw := wr64_le (n := v.Number - 1); have h1_ := decimal_len (n := v.Number) (by omega); have h2_ := decimal_len (n := v.Parent) (by omega); simp <;> omega)) | ((have hS : StIn v.State := (by assumption); have hq := at_all (i := x1.2) hS.2 (by omega); have hl := hS.1; first | omega | (have hd := decimal_len (n := (at' v.State x1.2).Value) (by omega); simp <;> omega))) | ((have hS : StIn v.State := (by assumption); have hl := hS.1; first | omega | (simp <;> omega)))) (sub_of [] ⟨rfl, rfl, rfl, rfl, rfl, trivial⟩ ⟨rfl, trivial⟩ rfl)
      · try simp only [Bool.and_eq_true, Bool.or_eq_true, Bool.not_eq_true', Bool.and_eq_false_iff, Bool.or_eq_false_iff, Bool.not_eq_false', decide_eq_true_eq, decide_eq_false_iff_not, beq_iff_eq, bne_iff_ne, beq_eq_false_iff_ne, bne_eq_false_iff_eq, Bool.true_and, ne_eq, Decidable.not_not, Int.not_lt, Int.not_le, Nat.not_lt, Nat.not_le, strB_nil, strB_nil', strB_nnil, strB_nnil'] at h5
        refine run_exit rfl ?_
        exact run_cont hk3 (x1.1, x1.2) ⟨by first | omega | assumption | (simp only [List.length_append, List.length_cons, List.length_nil, List.length_replicate, put_len] at * <;> omega) | ((have hw := wr64_le (n := v.Number - 1); omega)) | ((have hw := wr64_le (n := v.Number - 1); have h1_ := decimal_len (n := v.Number) (by omega); have h2_ := decimal_len (n := v.Parent) (by omega); simp <;> omega)) | ((have hS : StIn v.State := (by assumption); have hq := at_all (i := x1.2) hS.2 (by omega); have hl := hS.1; first | omega | (have hd := decimal_len (n := (at' v.State x1.2).Value) (by omega); simp <;> omega))) | ((have hS : StIn v.State := (by assumption); have hl := hS.1; first | omega | (simp <;> omega))), by first | omega | assumption | (simp only [List.length_append, List.length_cons, List.length_nil, List.length_replicate, put_len] at * <;> omega) | ((have hw := wr64_le (n := v.Number - 1); omega)) | ((have hw := wr64_le (n := v.Number - 1); have h1_ := decimal_len (n := v.Number) (by omega); have h2_ := decimal_len (n := v.Parent) (by omega); simp <;> omega)) | ((have hS : StIn v.State := (by assumption); have hq := at_all (i := x1.2) hS.2 (by omega); have hl := hS.1; first | omega | (have hd := decimal_len (n := (at' v.State x1.2).Value) (by omega); simp <;> omega))) | ((have hS : StIn v.State := (by assumption); have hl := hS.1; first | omega | (simp <;> omega))), by first | omega | assumption | (simp only [List.length_append, List.length_cons, List.length_nil, List.length_replicate, put_len] at * <;> omega) | ((have hw := wr64_le (n := v.Number - 1); omega)) | ((have hw := wr64_le (n := v.Number - 1); have h1_ := decimal_len (n := v.Number) (by omega); have h2_ := decimal_len (n := v.Parent) (by omega); simp <;> omega)) | ((have hS : StIn v.State := (by assumption); have hq := at_all (i := x1.2) hS.2 (by omega); have hl := hS.1; first | omega | (have hd := decimal_len (n := (at' v.State x1.2).Value) (by omega); simp <;> omega))) | ((have hS : StIn v.State := (by assumption); have hl := hS.1; first | omega | (simp <;> omega))), by first | omega | assumption | (simp only [List.length_append, List.length_cons, List.length_nil, List.length_replicate, put_len] at * <;> omega) | ((have hw := wr64_le (n := v.Number - 1); omega)) | ((have hw := wr64_le (n := v.Number - 1); have h1_ := decimal_len (n := v.Number) (by omega); have h2_ := decimal_len (n := v.Parent) (by omega); simp <;> omega)) | ((have hS : StIn v.State := (by assumption); have hq := at_all (i := x1.2) hS.2 (by omega); have hl := hS.1; first | omega | (have hd := decimal_len (n := (at' v.State x1.2).Value) (by omega); simp <;> omega))) | ((have hS : StIn v.State := (by assumption); have hl := hS.1; first | omega | (simp <;> omega)))⟩ (sub_of [] ⟨rfl, rfl, trivial⟩ ⟨rfl, trivial⟩ rfl)

/-! ### laws_eqSetting -/
theorem c_laws_eqSetting (a : gSetting) (b : gSetting) : Con Tryd.prog 66 [.st [.str a.Name, .int .i64 a.Value], .st [.str b.Name, .int .i64 b.Value]] [] (.bool (m_laws_eqSetting a b)) ([]) := by
  refine con_intro (out := fun r : Bool => ((.bool r : V), ([] : List (Nat × Option O)))) (r := (m_laws_eqSetting a b)) Tryd.func66 rfl Tryd.ntmps66 rfl ?_
  refine run_seq ?_
  refine run_region (q_box (l := 200) .n rfl (.t rfl) rfl rfl rfl rfl <|
      q_box (l := 201) .n rfl (.t rfl) rfl rfl rfl rfl <|
      q_assign .n (.c rfl) rfl <|
      Lex.nil) ?_
  refine run_seq ?_
  refine run_seq ?_
  refine run_region (q_fld_ow .n (.t rfl) fo_78_0 rfl <|
      q_ld1_ow .n (.t rfl) rfl (.inr rfl) (fun _ => rfl) rfl ic_9 rfl <|
      q_fld_ow .n (.t rfl) fo_78_0 rfl <|
      q_ld1_ow .n (.t rfl) rfl (.inr rfl) (fun _ => rfl) rfl ic_9 rfl <|
      q_strcmp .n (.t rfl) (.t rfl) rfl rfl <|
      Lex.nil) ?_
  refine run_cond (.t rfl) rfl (fun h1 => ?_) (fun h1 => ?_)
  · try simp only [Bool.and_eq_true, Bool.or_eq_true, Bool.not_eq_true', Bool.and_eq_false_iff, Bool.or_eq_false_iff, Bool.not_eq_false', decide_eq_true_eq, decide_eq_false_iff_not, beq_iff_eq, bne_iff_ne, beq_eq_false_iff_ne, bne_eq_false_iff_eq, Bool.true_and, ne_eq, Decidable.not_not, Int.not_lt, Int.not_le, Nat.not_lt, Nat.not_le, strB_nil, strB_nil', strB_nnil, strB_nnil'] at h1
    refine run_seq ?_
    refine run_region (q_assign .n (.c rfl) rfl <|
        Lex.nil) ?_
    exact run_ret [] (.cons (.t rfl rfl) .nil) rfl trivial rfl
  · try simp only [Bool.and_eq_true, Bool.or_eq_true, Bool.not_eq_true', Bool.and_eq_false_iff, Bool.or_eq_false_iff, Bool.not_eq_false', decide_eq_true_eq, decide_eq_false_iff_not, beq_iff_eq, bne_iff_ne, beq_eq_false_iff_ne, bne_eq_false_iff_eq, Bool.true_and, ne_eq, Decidable.not_not, Int.not_lt, Int.not_le, Nat.not_lt, Nat.not_le, strB_nil, strB_nil', strB_nnil, strB_nnil'] at h1
    refine run_skip ?_
    refine run_seq ?_
    refine run_seq ?_
    refine run_region (q_fld_ow .n (.t rfl) fo_78_1 rfl <|
        q_ld1_ow .n (.t rfl) rfl (.inr rfl) (fun _ => rfl) rfl ic_2 rfl <|
        q_fld_ow .n (.t rfl) fo_78_1 rfl <|
        q_ld1_ow .n (.t rfl) rfl (.inr rfl) (fun _ => rfl) rfl ic_2 rfl <|
        q_int .n (.t rfl) (.t rfl) rfl rfl <|
        Lex.nil) ?_
    refine run_cond (.t rfl) rfl (fun h2 => ?_) (fun h2 => ?_)
    · try simp only [Bool.and_eq_true, Bool.or_eq_true, Bool.not_eq_true', Bool.and_eq_false_iff, Bool.or_eq_false_iff, Bool.not_eq_false', decide_eq_true_eq, decide_eq_false_iff_not, beq_iff_eq, bne_iff_ne, beq_eq_false_iff_ne, bne_eq_false_iff_eq, Bool.true_and, ne_eq, Decidable.not_not, Int.not_lt, Int.not_le, Nat.not_lt, Nat.not_le, strB_nil, strB_nil', strB_nnil, strB_nnil'] at h2
      refine run_seq ?_
      refine run_region (q_assign .n (.c rfl) rfl <|
          Lex.nil) ?_
      exact run_ret [] (.cons (.t rfl rfl) .nil) rfl trivial rfl
    · try simp only [Bool.and_eq_true, Bool.or_eq_true, Bool.not_eq_true', Bool.and_eq_false_iff, Bool.or_eq_false_iff, Bool.not_eq_false', decide_eq_true_eq, decide_eq_false_iff_not, beq_iff_eq, bne_iff_ne, beq_eq_false_iff_ne, bne_eq_false_iff_eq, Bool.true_and, ne_eq, Decidable.not_not, Int.not_lt, Int.not_le, Nat.not_lt, Nat.not_le, strB_nil, strB_nil', strB_nnil, strB_nnil'] at h2
      refine run_skip ?_
      refine run_seq ?_
      refine run_region (q_assign .n (.c rfl) rfl <|
          Lex.nil) ?_
      exact run_ret [] (.cons (.t rfl rfl) .nil) rfl trivial rfl

/-! ### laws_eqSettingS -/
theorem c_laws_eqSettingS (a : List gSetting) (b : List gSetting) : Con Tryd.prog 49 [.sl 2 (a.map gSetting.v), .sl 2 (b.map gSetting.v)] [] (.bool (m_laws_eqSettingS a b)) ([]) := by
  refine con_intro (out := fun r : Bool => ((.bool r : V), ([] : List (Nat × Option O)))) (r := (m_laws_eqSettingS a b)) Tryd.func49 rfl Tryd.ntmps49 rfl ?_
  refine run_fact (t := 0) rfl fun hl => ?_
  have l1 := hl; clear hl; simp only [List.length_map] at l1
  refine run_fact (t := 1) rfl fun hl => ?_
  have l2 := hl; clear hl; simp only [List.length_map] at l2
  refine run_seq ?_
  refine run_region (q_assign .n (.c rfl) rfl <|
      Lex.nil) ?_
  refine run_seq ?_
  refine run_seq ?_
  refine run_region (q_move .n (.t rfl) rfl <|
      q_len .n (.t rfl) rfl len_map ss_48 rfl <|
      q_move .n (.t rfl) rfl <|
      q_len .n (.t rfl) rfl len_map ss_48 rfl <|
      q_int .n (.t rfl) (.t rfl) rfl rfl <|
      Lex.nil) ?_
  refine run_cond (.t rfl) rfl (fun h3 => ?_) (fun h3 => ?_)
  · try simp only [Bool.and_eq_true, Bool.or_eq_true, Bool.not_eq_true', Bool.and_eq_false_iff, Bool.or_eq_false_iff, Bool.not_eq_false', decide_eq_true_eq, decide_eq_false_iff_not, beq_iff_eq, bne_iff_ne, beq_eq_false_iff_ne, bne_eq_false_iff_eq, Bool.true_and, ne_eq, Decidable.not_not, Int.not_lt, Int.not_le, Nat.not_lt, Nat.not_le, strB_nil, strB_nil', strB_nnil, strB_nnil'] at h3
    refine run_seq ?_
    refine run_region (q_assign .n (.c rfl) rfl <|
        Lex.nil) ?_
    exact run_ret [] (.cons (.t rfl rfl) .nil) rfl trivial rfl
  · try simp only [Bool.and_eq_true, Bool.or_eq_true, Bool.not_eq_true', Bool.and_eq_false_iff, Bool.or_eq_false_iff, Bool.not_eq_false', decide_eq_true_eq, decide_eq_false_iff_not, beq_iff_eq, bne_iff_ne, beq_eq_false_iff_ne, bne_eq_false_iff_eq, Bool.true_and, ne_eq, Decidable.not_not, Int.not_lt, Int.not_le, Nat.not_lt, Nat.not_le, strB_nil, strB_nil', strB_nnil, strB_nnil'] at h3
    refine run_skip ?_
    refine run_seq ?_
    refine run_seq ?_
    refine run_region (q_assign .n (.c rfl) rfl <|
        Lex.nil) ?_
    refine run_block ?_
    refine run_LOOP (m_laws_eqSettingS_b1 a b) _ _ _ rfl (fun (x1 : Int) => 0 ≤ x1 ∧ x1 ≤ (a.length : Int)) (fun x1 => 0 ≤ x1 ∧ x1 ≤ (a.length : Int) ∧ (a.length : Int) ≤ x1) (fun x1 => ((a.length : Int) - x1 : Int).toNat) (fun x1 => ⟨[(0, some (true, .sl 2 (a.map gSetting.v))), (1, some (true, .sl 2 (b.map gSetting.v))), (5, some (true, .int .i64 x1))], []⟩) (fun x1 => ⟨[], []⟩) ⟨by first | omega | assumption | (simp only [List.length_append, List.length_cons, List.length_nil, List.length_replicate, put_len] at * <;> omega), by first | omega | assumption | (simp only [List.length_append, List.length_cons, List.length_nil, List.length_replicate, put_len] at * <;> omega)⟩ (by first | omega | assumption | (simp only [List.length_append, List.length_cons, List.length_nil, List.length_replicate, put_len] at * <;> omega)) (sub_of [] ⟨rfl, rfl, rfl, trivial⟩ trivial rfl) ?_ ?_
    · intro x1 i8
      obtain ⟨e9, e10, e11⟩ := i8
      try dsimp only at *
      refine run_seq ?_
      refine run_region (q_assign .n (.c rfl) rfl <|
          Lex.nil) ?_
      exact run_ret [] (.cons (.t rfl rfl) .nil) rfl trivial rfl
    · intro rec1 k1 hk4 x1 i5
      obtain ⟨e12, e13⟩ := i5
      try dsimp only at *
      refine run_seq ?_
      refine run_seq ?_
      refine run_region (q_move .n (.t rfl) rfl <|
          q_move .n (.t rfl) rfl <|
          q_len .n (.t rfl) rfl len_map ss_48 rfl <|
          q_int .n (.t rfl) (.t rfl) rfl rfl <|
          Lex.nil) ?_
      refine run_cond (.t rfl) rfl (fun h6 => ?_) (fun h6 => ?_)
      · try simp only [Bool.and_eq_true, Bool.or_eq_true, Bool.not_eq_true', Bool.and_eq_false_iff, Bool.or_eq_false_iff, Bool.not_eq_false', decide_eq_true_eq, decide_eq_false_iff_not, beq_iff_eq, bne_iff_ne, beq_eq_false_iff_ne, bne_eq_false_iff_eq, Bool.true_and, ne_eq, Decidable.not_not, Int.not_lt, Int.not_le, Nat.not_lt, Nat.not_le, strB_nil, strB_nil', strB_nnil, strB_nnil'] at h6
        refine run_skip ?_
        refine run_seq ?_
        refine run_block ?_
        refine run_seq ?_
        refine run_draw fmo (q_move .n (.t rfl) rfl <|
            q_move .n (.t rfl) rfl <|
            q_idx_rm .n (.t rfl) (.t rfl) sl_48 (fun _ => by first | omega | assumption | (simp only [List.length_append, List.length_cons, List.length_nil, List.length_replicate, put_len] at * <;> omega)) rfl <|
            q_ldN_ro .n (.t rfl) ag_78 rfl rfl rfl <|
            q_move .n (.t rfl) rfl <|
            q_move .n (.t rfl) rfl <|
            q_idx_rm .n (.t rfl) (.t rfl) sl_48 (fun _ => by first | omega | assumption | (simp only [List.length_append, List.length_cons, List.length_nil, List.length_replicate, put_len] at * <;> omega)) rfl <|
            q_ldN_ro .n (.t rfl) ag_78 rfl rfl rfl <|
            q_call0 (full := false) .n .f en_66 (.cons (.t rfl) (.cons (.t rfl) .nil)) (.cons (.sts rfl) (.cons (.sts rfl) .nil)) (fun hg => c_laws_eqSetting (at' a x1) (at' b x1)) rfl (fun h => Bool.noConfusion h) rfl <|
            q_not .n (.t rfl) rfl <|
            Lex.nil) (by kernel_rfl) ?_
        refine run_cond (.t rfl) rfl (fun h7 => ?_) (fun h7 => ?_)
        · try simp only [Bool.and_eq_true, Bool.or_eq_true, Bool.not_eq_true', Bool.and_eq_false_iff, Bool.or_eq_false_iff, Bool.not_eq_false', decide_eq_true_eq, decide_eq_false_iff_not, beq_iff_eq, bne_iff_ne, beq_eq_false_iff_ne, bne_eq_false_iff_eq, Bool.true_and, ne_eq, Decidable.not_not, Int.not_lt, Int.not_le, Nat.not_lt, Nat.not_le, strB_nil, strB_nil', strB_nnil, strB_nnil'] at h7
          refine run_seq ?_
          refine run_region (q_assign .n (.c rfl) rfl <|
              Lex.nil) ?_
          exact run_ret [] (.cons (.t rfl rfl) .nil) rfl trivial rfl
        · try simp only [Bool.and_eq_true, Bool.or_eq_true, Bool.not_eq_true', Bool.and_eq_false_iff, Bool.or_eq_false_iff, Bool.not_eq_false', decide_eq_true_eq, decide_eq_false_iff_not, beq_iff_eq, bne_iff_ne, beq_eq_false_iff_ne, bne_eq_false_iff_eq, Bool.true_and, ne_eq, Decidable.not_not, Int.not_lt, Int.not_le, Nat.not_lt, Nat.not_le, strB_nil, strB_nil', strB_nnil, strB_nnil'] at h7
          refine run_skip ?_
          refine run_endB ?_
          refine run_region (q_move .n (.t rfl) rfl <|
              q_add .n (.t rfl) (.c rfl) (fun _ => by first | omega | assumption | (simp only [List.length_append, List.length_cons, List.length_nil, List.length_replicate, put_len] at * <;> omega)) rfl <|
              q_assign .n (.t rfl) rfl <|
              Lex.nil) ?_
          exact run_again (x1 + 1) ⟨by first | omega | assumption | (simp only [List.length_append, List.length_cons, List.length_nil, List.length_replicate, put_len] at * <;> omega), by first | omega | assumption | (simp only [List.length_append, List.length_cons, List.length_nil, List.length_replicate, put_len] at * <;> omega)⟩ (by first | omega | assumption | (simp only [List.length_append, List.length_cons, List.length_nil, List.length_replicate, put_len] at * <;> omega)) (sub_of [] ⟨rfl, rfl, rfl, trivial⟩ trivial rfl)
      · try simp only [Bool.and_eq_true, Bool.or_eq_true, Bool.not_eq_true', Bool.and_eq_false_iff, Bool.or_eq_false_iff, Bool.not_eq_false', decide_eq_true_eq, decide_eq_false_iff_not, beq_iff_eq, bne_iff_ne, beq_eq_false_iff_ne, bne_eq_false_iff_eq, Bool.true_and, ne_eq, Decidable.not_not, Int.not_lt, Int.not_le, Nat.not_lt, Nat.not_le, strB_nil, strB_nil', strB_nnil, strB_nnil'] at h6
        refine run_exit rfl ?_
        exact run_cont hk4 x1 ⟨by first | omega | assumption | (simp only [List.length_append, List.length_cons, List.length_nil, List.length_replicate, put_len] at * <;> omega), by first | omega | assumption | (simp only [List.length_append, List.length_cons, List.length_nil, List.length_replicate, put_len] at * <;> omega), by first | omega | assumption | (simp only [List.length_append, List.length_cons, List.length_nil, List.length_replicate, put_len] at * <;> omega)⟩ (sub_of [] trivial trivial rfl)


end Go.Proofs.YtandefcnbemclaaDoor
