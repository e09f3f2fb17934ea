/-
  THE WALKS: each Go function computes its model. Conditions: as each theorem states them (hp1, hp2 ..).
-/
import Derived.Test.YtceonolphigfdaaDoorExactReadPermitPlain15
import Derived.Test.YtceonolphigfdaaDoorProg
import Derived.Test.YtceonolphigfdaaDoorEngS
set_option linter.unusedVariables false
set_option linter.unusedSimpArgs false
set_option linter.unusedSectionVars false
set_option linter.unnecessarySimpa false
namespace Go.Proofs.YtceonolphigfdaaDoor
open Go Go.RowKit Go.Proofs Go.Proofs.YtceonolphigfdaaDoor.E
theorem si_43 : slInfo Tryd.prog 43 = some (9, 1, 16) := by kernel_rfl
theorem zv_9 : zeroV Tryd.prog 9 = some (.str ([] : List UInt8)) := by kernel_rfl
theorem st_9 : isStr Tryd.prog 9 = true := by kernel_rfl
theorem en_51 : entB Tryd.prog 51 = true := by kernel_rfl
theorem cv_5_2 : cvInt Tryd.prog 5 2 = some .i64 := by kernel_rfl
theorem si_45 : slInfo Tryd.prog 45 = some (2, 1, 8) := by kernel_rfl
theorem zv_2 : zeroV Tryd.prog 2 = some (.int .i64 0) := by kernel_rfl
theorem en_19 : entB Tryd.prog 19 = true := by kernel_rfl
theorem ss_43 : (slEl Tryd.prog 43).isSome = true := by kernel_rfl
theorem sl_43 : slEl Tryd.prog 43 = some (9, 1) := by kernel_rfl
theorem ic_9 : isCell Tryd.prog 9 = true := by kernel_rfl
theorem en_35 : entB Tryd.prog 35 = true := by kernel_rfl
theorem en_36 : entB Tryd.prog 36 = true := by kernel_rfl
theorem en_52 : entB Tryd.prog 52 = true := by kernel_rfl
theorem fo_39_0 : fldOff Tryd.prog 39 0 = some 0 := by kernel_rfl
theorem en_37 : entB Tryd.prog 37 = true := by kernel_rfl
theorem fo_39_1 : fldOff Tryd.prog 39 1 = some 1 := by kernel_rfl
theorem ic_2 : isCell Tryd.prog 2 = true := by kernel_rfl
theorem en_60 : entB Tryd.prog 60 = true := by kernel_rfl
theorem fo_39_2 : fldOff Tryd.prog 39 2 = some 2 := by kernel_rfl
theorem en_61 : entB Tryd.prog 61 = true := by kernel_rfl
theorem fo_39_3 : fldOff Tryd.prog 39 3 = some 3 := by kernel_rfl
theorem fo_39_4 : fldOff Tryd.prog 39 4 = some 4 := by kernel_rfl
theorem fmo : Tryd.prog.follows .mixedOrders = true := by kernel_rfl
theorem zv_39 : zeroV Tryd.prog 39 = some (.st [.str ([] : List UInt8), .int .i64 0, .int .i64 0, .int .i64 0, .int .i64 0]) := by kernel_rfl
theorem pl_39 : places Tryd.prog 39 = some [(0, 1), (1, 1), (2, 1), (3, 1), (4, 1)] := by kernel_rfl
theorem ts_39 : tySz Tryd.prog 39 = some 5 := by kernel_rfl
theorem en_45 : entB Tryd.prog 45 = true := by kernel_rfl
theorem ts_2 : tySz Tryd.prog 2 = some 1 := by kernel_rfl
theorem en_20 : entB Tryd.prog 20 = true := by kernel_rfl
theorem ss_45 : (slEl Tryd.prog 45).isSome = true := by kernel_rfl
theorem sl_45 : slEl Tryd.prog 45 = some (2, 1) := by kernel_rfl
theorem en_46 : entB Tryd.prog 46 = true := by kernel_rfl
theorem ag_39 : aggSz Tryd.prog 39 = some 5 := by kernel_rfl
theorem en_28 : entB Tryd.prog 28 = true := by kernel_rfl
theorem en_58 : entB Tryd.prog 58 = true := by kernel_rfl
theorem en_48 : entB Tryd.prog 48 = true := by kernel_rfl
theorem zv_75 : zeroV Tryd.prog 75 = some (.st [.str ([] : List UInt8), .str ([] : List UInt8), .str ([] : List UInt8), .str ([] : List UInt8), .str ([] : List UInt8)]) := by kernel_rfl
theorem ae_75 : arrEl Tryd.prog 75 = some (5, 9, 1) := by kernel_rfl
theorem en_32 : entB Tryd.prog 32 = true := by kernel_rfl
theorem ic_43 : isCell Tryd.prog 43 = true := by kernel_rfl
theorem en_74 : entB Tryd.prog 74 = true := by kernel_rfl
theorem en_65 : entB Tryd.prog 65 = true := by kernel_rfl
theorem en_66 : entB Tryd.prog 66 = true := by kernel_rfl
theorem en_68 : entB Tryd.prog 68 = true := by kernel_rfl
theorem uf_83 : Tryd.prog.underlying 83 = some (.interface (Tryd.prog.methodsAt 83)) := by kernel_rfl
theorem en_69 : entB Tryd.prog 69 = true := by kernel_rfl
theorem en_54 : entB Tryd.prog 54 = true := by kernel_rfl
theorem en_55 : entB Tryd.prog 55 = true := by kernel_rfl
theorem en_50 : entB Tryd.prog 50 = true := by kernel_rfl
theorem en_39 : entB Tryd.prog 39 = true := by kernel_rfl
theorem en_70 : entB Tryd.prog 70 = true := by kernel_rfl
theorem en_56 : entB Tryd.prog 56 = true := by kernel_rfl
theorem en_49 : entB Tryd.prog 49 = true := by kernel_rfl
theorem en_29 : entB Tryd.prog 29 = true := by kernel_rfl
theorem zv_43 : zeroV Tryd.prog 43 = some (.nls) := by kernel_rfl
theorem ts_43 : tySz Tryd.prog 43 = some 1 := by kernel_rfl
theorem en_31 : entB Tryd.prog 31 = true := by kernel_rfl
theorem en_30 : entB Tryd.prog 30 = true := by kernel_rfl
theorem en_33 : entB Tryd.prog 33 = true := by kernel_rfl
theorem en_34 : entB Tryd.prog 34 = true := by kernel_rfl
theorem en_16 : entB Tryd.prog 16 = true := by kernel_rfl
theorem en_17 : entB Tryd.prog 17 = true := by kernel_rfl
theorem en_18 : entB Tryd.prog 18 = true := by kernel_rfl
theorem ub_4 : Tryd.prog.underlying 4 = some .bool := by kernel_rfl

/-! ### spec_l01Split -/
theorem c_spec_l01Split (s_ : List UInt8) (by_ : Int) (hp1 : s_.length ≤ 1048576) (hp2 : 0 ≤ by_ ∧ by_ ≤ 255) : Con Tryd.prog 19 [.str s_, .int .u8 by_] [] (.os 100 (m_spec_l01Split s_ by_).length) ([(100, some (.row 9 1 ((m_spec_l01Split s_ by_).map V.str)))]) := by
  refine con_intro (out := fun r : (List (List UInt8)) => ((.os 100 r.length : V), ([(100, some (.row 9 1 (r.map V.str)))] : List (Nat × Option O)))) (r := (m_spec_l01Split s_ by_)) Tryd.func19 rfl Tryd.ntmps19 rfl ?_
  refine run_seq ?_
  refine run_region (q_assign .n (.c rfl) rfl <|
      Lex.nil) ?_
  refine run_seq ?_
  refine run_region (q_bslicem ([] : List (List UInt8)) (f := V.str) (l := 200) .n rfl rfl .nil rfl si_43 zv_9 rfl rfl rfl <|
      q_assign .n (.t rfl) rfl <|
      Lex.nil) ?_
  refine run_seq ?_
  refine run_region (q_assign .n (.c rfl) rfl <|
      Lex.nil) ?_
  refine run_seq ?_
  refine run_seq ?_
  refine run_region (q_assign .n (.c rfl) rfl <|
      Lex.nil) ?_
  refine run_block ?_
  refine run_LOOP (m_spec_l01Split_b1 s_ by_) _ _ _ rfl (fun (x1 : (List (List UInt8)) × Int × Int) => 0 ≤ x1.2.2 ∧ x1.2.2 ≤ (s_.length : Int) ∧ (x1.1.length : Int) + 0 ≤ x1.2.2 + (([] : List (List UInt8)).length : Int) ∧ 0 ≤ x1.2.1 ∧ x1.2.1 ≤ x1.2.2 ∧ (x1.1.length : Int) ≤ x1.2.2) (fun x1 => 0 ≤ x1.2.2 ∧ x1.2.2 ≤ (s_.length : Int) ∧ (x1.1.length : Int) + 0 ≤ x1.2.2 + (([] : List (List UInt8)).length : Int) ∧ 0 ≤ x1.2.1 ∧ x1.2.1 ≤ x1.2.2 ∧ (x1.1.length : Int) ≤ x1.2.2 ∧ (s_.length : Int) ≤ x1.2.2) (fun x1 => ((s_.length : Int) - x1.2.2 : Int).toNat) (fun x1 => ⟨[(0, some (true, .str s_)), (1, some (true, .int .u8 by_)), (5, some (true, .os 200 x1.1.length)), (6, some (true, .int .i64 x1.2.1)), (7, some (true, .int .i64 x1.2.2))], [(200, some (.row 9 1 (x1.1.map V.str)))]⟩) (fun x1 => ⟨[(0, some (true, .str s_)), (5, some (true, .os 200 x1.1.length)), (6, some (true, .int .i64 x1.2.1))], [(200, some (.row 9 1 (x1.1.map V.str)))]⟩) ⟨by first | omega | assumption | (simp only [List.length_append, List.length_cons, List.length_nil, List.length_replicate, put_len] at * <;> omega), by first | omega | assumption | (simp only [List.length_append, List.length_cons, List.length_nil, List.length_replicate, put_len] at * <;> omega), by first | omega | assumption | (simp only [List.length_append, List.length_cons, List.length_nil, List.length_replicate, put_len] at * <;> omega), by first | omega | assumption | (simp only [List.length_append, List.length_cons, List.length_nil, List.length_replicate, put_len] at * <;> omega), by first | omega | assumption | (simp only [List.length_append, List.length_cons, List.length_nil, List.length_replicate, put_len] at * <;> omega)⟩ (by first | omega | assumption | (simp only [List.length_append, List.length_cons, List.length_nil, List.length_replicate, put_len] at * <;> omega)) (sub_of [] ⟨rfl, rfl, rfl, rfl, rfl, trivial⟩ ⟨rfl, trivial⟩ rfl) ?_ ?_
  · intro x1 i5
    obtain ⟨e6, e7, e8, e9, e10, e11⟩ := i5
    try dsimp only at *
    refine run_seq ?_
    refine run_region (q_move .n (.t rfl) rfl <|
        q_move .n (.t rfl) rfl <|
        q_move .n (.t rfl) rfl <|
        q_strcutm x1.2.1 (s_.length : Int) .n (.t rfl) (.s (.t rfl)) .n st_9 rfl rfl (fun _ => by first | omega | assumption | (simp only [List.length_append, List.length_cons, List.length_nil, List.length_replicate, put_len] at * <;> omega)) rfl <|
        q_bslicem ([cut' s_ x1.2.1 (s_.length : Int)] : List (List UInt8)) (f := V.str) (l := 203) .n rfl rfl (.cons (.t rfl) .nil) rfl si_43 zv_9 rfl rfl rfl <|
        q_appm (xs := x1.1) (ys := ([cut' s_ x1.2.1 (s_.length : Int)] : List (List UInt8))) (f := V.str) (l := 204) .n rfl (.ow (.t rfl) rfl (take_all (by simp only [len_map, put_len] <;> rfl)) (by simp only [len_map, put_len] <;> rfl)) (.ow (.t rfl) rfl (take_all (by simp only [len_map, put_len] <;> rfl)) (by simp only [len_map, put_len] <;> rfl)) si_43 zv_9 rfl (by first | omega | assumption | (simp only [List.length_append, List.length_cons, List.length_nil, List.length_replicate, put_len] at * <;> omega)) rfl rfl <|
        q_assign .n (.t rfl) rfl <|
        Lex.nil) ?_
    exact run_ret [(100, 204)] (.cons (.t rfl rfl) .nil) (by first | rfl | (simp only [put_len]; rfl)) ⟨rfl, trivial⟩ rfl
  · intro rec1 k1 hk1 x1 i2
    obtain ⟨e12, e13, e14, e15, e16⟩ := i2
    try dsimp only at *
    refine run_seq ?_
    refine run_seq ?_
    refine run_region (q_move .n (.t rfl) rfl <|
        q_move .n (.t rfl) rfl <|
        q_len .n (.t rfl) rfl rfl st_9 rfl <|
        q_int .n (.t rfl) (.t rfl) rfl rfl <|
        Lex.nil) ?_
    refine run_cond (.t rfl) rfl (fun h3 => ?_) (fun h3 => ?_)
    · try simp only [Bool.and_eq_true, Bool.or_eq_true, Bool.not_eq_true', Bool.and_eq_false_iff, Bool.or_eq_false_iff, Bool.not_eq_false', decide_eq_true_eq, decide_eq_false_iff_not, beq_iff_eq, bne_iff_ne, beq_eq_false_iff_ne, bne_eq_false_iff_eq, Bool.true_and, ne_eq, Decidable.not_not, Int.not_lt, Int.not_le, Nat.not_lt, Nat.not_le, strB_nil, strB_nil', strB_nnil, strB_nnil'] at h3
      refine run_skip ?_
      refine run_seq ?_
      refine run_block ?_
      refine run_seq ?_
      refine run_region (q_move .n (.t rfl) rfl <|
          q_move .n (.t rfl) rfl <|
          q_strat .n (.t rfl) (.t rfl) st_9 (fun _ => by first | omega | assumption | (simp only [List.length_append, List.length_cons, List.length_nil, List.length_replicate, put_len] at * <;> omega)) rfl <|
          q_move .n (.t rfl) rfl <|
          q_int .n (.t rfl) (.t rfl) rfl rfl <|
          Lex.nil) ?_
      refine run_cond (.t rfl) rfl (fun h4 => ?_) (fun h4 => ?_)
      · try simp only [Bool.and_eq_true, Bool.or_eq_true, Bool.not_eq_true', Bool.and_eq_false_iff, Bool.or_eq_false_iff, Bool.not_eq_false', decide_eq_true_eq, decide_eq_false_iff_not, beq_iff_eq, bne_iff_ne, beq_eq_false_iff_ne, bne_eq_false_iff_eq, Bool.true_and, ne_eq, Decidable.not_not, Int.not_lt, Int.not_le, Nat.not_lt, Nat.not_le, strB_nil, strB_nil', strB_nnil, strB_nnil'] at h4
        refine run_seq ?_
        refine run_region (q_move .n (.t rfl) rfl <|
            q_move .n (.t rfl) rfl <|
            q_move .n (.t rfl) rfl <|
            q_move .n (.t rfl) rfl <|
            q_strcutm x1.2.1 x1.2.2 .n (.t rfl) (.s (.t rfl)) (.s (.t rfl)) st_9 rfl rfl (fun _ => by first | omega | assumption | (simp only [List.length_append, List.length_cons, List.length_nil, List.length_replicate, put_len] at * <;> omega)) rfl <|
            q_bslicem ([cut' s_ x1.2.1 x1.2.2] : List (List UInt8)) (f := V.str) (l := 201) .n rfl rfl (.cons (.t rfl) .nil) rfl si_43 zv_9 rfl rfl rfl <|
            q_appm (xs := x1.1) (ys := ([cut' s_ x1.2.1 x1.2.2] : List (List UInt8))) (f := V.str) (l := 202) .n rfl (.ow (.t rfl) rfl (take_all (by simp only [len_map, put_len] <;> rfl)) (by simp only [len_map, put_len] <;> rfl)) (.ow (.t rfl) rfl (take_all (by simp only [len_map, put_len] <;> rfl)) (by simp only [len_map, put_len] <;> rfl)) si_43 zv_9 rfl (by first | omega | assumption | (simp only [List.length_append, List.length_cons, List.length_nil, List.length_replicate, put_len] at * <;> omega)) rfl rfl <|
            q_assign .n (.t rfl) rfl <|
            Lex.nil) ?_
        refine run_region (q_move .n (.t rfl) rfl <|
            q_add .n (.t rfl) (.c rfl) (fun _ => by first | omega | assumption | (simp only [List.length_append, List.length_cons, List.length_nil, List.length_replicate, put_len] at * <;> omega)) rfl <|
            q_assign .n (.t rfl) rfl <|
            Lex.nil) ?_
        refine run_endB ?_
        refine run_region (q_move .n (.t rfl) rfl <|
            q_add .n (.t rfl) (.c rfl) (fun _ => by first | omega | assumption | (simp only [List.length_append, List.length_cons, List.length_nil, List.length_replicate, put_len] at * <;> omega)) rfl <|
            q_assign .n (.t rfl) rfl <|
            Lex.nil) ?_
        exact run_again (x1.1 ++ ([cut' s_ x1.2.1 x1.2.2] : List (List UInt8)), x1.2.2 + 1, x1.2.2 + 1) ⟨by first | omega | assumption | (simp only [List.length_append, List.length_cons, List.length_nil, List.length_replicate, put_len] at * <;> omega), by first | omega | assumption | (simp only [List.length_append, List.length_cons, List.length_nil, List.length_replicate, put_len] at * <;> omega), by first | omega | assumption | (simp only [List.length_append, List.length_cons, List.length_nil, List.length_replicate, put_len] at * <;> omega), by first | omega | assumption | (simp only [List.length_append, List.length_cons, List.length_nil, List.length_replicate, put_len] at * <;> omega), by first | omega | assumption | (simp only [List.length_append, List.length_cons, List.length_nil, List.length_replicate, put_len] at * <;> omega)⟩ (by first | omega | assumption | (simp only [List.length_append, List.length_cons, List.length_nil, List.length_replicate, put_len] at * <;> omega)) (sub_of [(200, 202)] ⟨rfl, rfl, rfl, rfl, rfl, trivial⟩ ⟨rfl, trivial⟩ rfl)
      · try simp only [Bool.and_eq_true, Bool.or_eq_true, Bool.not_eq_true', Bool.and_eq_false_iff, Bool.or_eq_false_iff, Bool.not_eq_false', decide_eq_true_eq, decide_eq_false_iff_not, beq_iff_eq, bne_iff_ne, beq_eq_false_iff_ne, bne_eq_false_iff_eq, Bool.true_and, ne_eq, Decidable.not_not, Int.not_lt, Int.not_le, Nat.not_lt, Nat.not_le, strB_nil, strB_nil', strB_nnil, strB_nnil'] at h4
        refine run_skip ?_
        refine run_endB ?_
        refine run_region (q_move .n (.t rfl) rfl <|
            q_add .n (.t rfl) (.c rfl) (fun _ => by first | omega | assumption | (simp only [List.length_append, List.length_cons, List.length_nil, List.length_replicate, put_len] at * <;> omega)) rfl <|
            q_assign .n (.t rfl) rfl <|
            Lex.nil) ?_
        exact run_again (x1.1, x1.2.1, x1.2.2 + 1) ⟨by first | omega | assumption | (simp only [List.length_append, List.length_cons, List.length_nil, List.length_replicate, put_len] at * <;> omega), by first | omega | assumption | (simp only [List.length_append, List.length_cons, List.length_nil, List.length_replicate, put_len] at * <;> omega), by first | omega | assumption | (simp only [List.length_append, List.length_cons, List.length_nil, List.length_replicate, put_len] at * <;> omega), by first | omega | assumption | (simp only [List.length_append, List.length_cons, List.length_nil, List.length_replicate, put_len] at * <;> omega), by first | omega | assumption | (simp only [List.length_append, List.length_cons, List.length_nil, List.length_replicate, put_len] at * <;> omega)⟩ (by first | omega | assumption | (simp only [List.length_append, List.length_cons, List.length_nil, List.length_replicate, put_len] at * <;> omega)) (sub_of [] ⟨rfl, rfl, rfl, rfl, rfl, trivial⟩ ⟨rfl, trivial⟩ rfl)
    · try simp only [Bool.and_eq_true, Bool.or_eq_true, Bool.not_eq_true', Bool.and_eq_false_iff, Bool.or_eq_false_iff, Bool.not_eq_false', decide_eq_true_eq, decide_eq_false_iff_not, beq_iff_eq, bne_iff_ne, beq_eq_false_iff_ne, bne_eq_false_iff_eq, Bool.true_and, ne_eq, Decidable.not_not, Int.not_lt, Int.not_le, Nat.not_lt, Nat.not_le, strB_nil, strB_nil', strB_nnil, strB_nnil'] at h3
      refine run_exit rfl ?_
      exact run_cont hk1 (x1.1, x1.2.1, x1.2.2) ⟨by first | omega | assumption | (simp only [List.length_append, List.length_cons, List.length_nil, List.length_replicate, put_len] at * <;> omega), by first | omega | assumption | (simp only [List.length_append, List.length_cons, List.length_nil, List.length_replicate, put_len] at * <;> omega), by first | omega | assumption | (simp only [List.length_append, List.length_cons, List.length_nil, List.length_replicate, put_len] at * <;> omega), by first | omega | assumption | (simp only [List.length_append, List.length_cons, List.length_nil, List.length_replicate, put_len] at * <;> omega), by first | omega | assumption | (simp only [List.length_append, List.length_cons, List.length_nil, List.length_replicate, put_len] at * <;> omega), by first | omega | assumption | (simp only [List.length_append, List.length_cons, List.length_nil, List.length_replicate, put_len] at * <;> omega)⟩ (sub_of [] ⟨rfl, rfl, rfl, trivial⟩ ⟨rfl, trivial⟩ rfl)

/-! ### spec_l01Digit -/
theorem c_spec_l01Digit (c_ : Int) : Con Tryd.prog 51 [.int .u8 c_] [] (.bool (m_spec_l01Digit c_)) ([]) := by
  refine con_intro (out := fun r : Bool => ((.bool r : V), ([] : List (Nat × Option O)))) (r := (m_spec_l01Digit c_)) Tryd.func51 rfl Tryd.ntmps51 rfl ?_
  refine run_seq ?_
  refine run_region (q_assign .n (.c rfl) rfl <|
      Lex.nil) ?_
  refine run_seq ?_
  refine run_region (q_move .n (.t rfl) rfl <|
      q_int .n (.t rfl) (.c rfl) rfl rfl <|
      q_move .n (.t rfl) rfl <|
      q_move (.t rfl rfl) (.t rfl) rfl <|
      q_int (.t rfl rfl) (.u rfl id) (.c rfl) rfl rfl <|
      q_and .n (.t rfl) (.u rfl id) rfl <|
      q_assign .n (.t rfl) rfl <|
      Lex.nil) ?_
  exact run_ret [] (.cons (.t rfl rfl) .nil) rfl trivial rfl

/-! ### spec_l01Number -/
theorem c_spec_l01Number (s_ : List UInt8) (hp1 : s_.length ≤ 1048576) : Con Tryd.prog 35 [.str s_] [] (.tup [.int .i64 (m_spec_l01Number s_).1, .bool (m_spec_l01Number s_).2]) ([]) := by
  refine con_intro (out := fun r : Int × Bool => ((.tup [.int .i64 r.1, .bool r.2] : V), ([] : List (Nat × Option O)))) (r := (m_spec_l01Number s_)) Tryd.func35 rfl Tryd.ntmps35 rfl ?_
  refine run_seq ?_
  refine run_region (q_assign .n (.c rfl) rfl <|
      q_assign .n (.c rfl) rfl <|
      Lex.nil) ?_
  refine run_seq ?_
  refine run_region (q_assign .n (.c rfl) rfl <|
      Lex.nil) ?_
  refine run_seq ?_
  refine run_seq ?_
  refine run_region (q_move .n (.t rfl) rfl <|
      q_len .n (.t rfl) rfl rfl st_9 rfl <|
      q_int .n (.t rfl) (.c rfl) rfl rfl <|
      q_move .n (.t rfl) rfl <|
      q_move (.t rfl rfl) (.t rfl) rfl <|
      q_strat (.t rfl rfl) (.u rfl id) (.c rfl) st_9 (fun hg => by simp only [Bool.and_eq_true, Bool.or_eq_true, Bool.not_eq_true', Bool.and_eq_false_iff, Bool.or_eq_false_iff, Bool.not_eq_false', decide_eq_true_eq, decide_eq_false_iff_not, beq_iff_eq, bne_iff_ne, beq_eq_false_iff_ne, bne_eq_false_iff_eq, Bool.true_and, ne_eq, Decidable.not_not, Int.not_lt, Int.not_le, Nat.not_lt, Nat.not_le, strB_nil, strB_nil', strB_nnil, strB_nnil'] at hg; first | omega | assumption | (simp only [List.length_append, List.length_cons, List.length_nil, List.length_replicate, put_len] at * <;> omega)) rfl <|
      q_int (.t rfl rfl) (.u rfl id) (.c rfl) rfl rfl <|
      q_and .n (.t rfl) (.u rfl id) rfl <|
      Lex.nil) ?_
  refine run_join _ _ rfl (fun v1 : Int => 0 ≤ v1 ∧ v1 ≤ s_.length) (fun v1 => ⟨[(0, some (true, .str s_)), (4, some (true, .int .i64 v1))], []⟩) (fun v1 hv17 => ?_) (fun j2 hj3 => ?_)
  · have e18 := hv17
    refine run_seq ?_
    refine run_seq ?_
    refine run_region (q_move .n (.t rfl) rfl <|
        q_len .n (.t rfl) rfl rfl st_9 rfl <|
        q_move .n (.t rfl) rfl <|
        q_int .n (.t rfl) (.t rfl) rfl rfl <|
        q_move .n (.t rfl) rfl <|
        q_move (.f rfl rfl) (.t rfl) rfl <|
        q_len (.f rfl rfl) (.u rfl id) rfl rfl st_9 rfl <|
        q_move (.f rfl rfl) (.t rfl) rfl <|
        q_int (.f rfl rfl) (.u rfl id) (.u rfl id) rfl rfl <|
        q_int (.f rfl rfl) (.u rfl id) (.c rfl) rfl rfl <|
        q_or .n (.t rfl) (.u rfl id) rfl <|
        q_move .n (.t rfl) rfl <|
        q_move (.f rfl rfl) (.t rfl) rfl <|
        q_move (.f rfl rfl) (.t rfl) rfl <|
        q_strat (.f rfl rfl) (.u rfl id) (.u rfl id) st_9 (fun hg => by simp only [Bool.and_eq_true, Bool.or_eq_true, Bool.not_eq_true', Bool.and_eq_false_iff, Bool.or_eq_false_iff, Bool.not_eq_false', decide_eq_true_eq, decide_eq_false_iff_not, beq_iff_eq, bne_iff_ne, beq_eq_false_iff_ne, bne_eq_false_iff_eq, Bool.true_and, ne_eq, Decidable.not_not, Int.not_lt, Int.not_le, Nat.not_lt, Nat.not_le, strB_nil, strB_nil', strB_nnil, strB_nnil'] at hg; first | omega | assumption | (simp only [List.length_append, List.length_cons, List.length_nil, List.length_replicate, put_len] at * <;> omega)) rfl <|
        q_int (.f rfl rfl) (.u rfl id) (.c rfl) rfl rfl <|
        q_move (.f rfl rfl) (.u rfl id) rfl <|
        q_move (.t rfl rfl) (.t rfl) rfl <|
        q_len (.t rfl rfl) (.u rfl id) rfl rfl st_9 rfl <|
        q_int (.t rfl rfl) (.u rfl id) (.c rfl) rfl rfl <|
        q_and (.f rfl rfl) (.u rfl id) (.u rfl id) rfl <|
        q_or .n (.t rfl) (.u rfl id) rfl <|
        Lex.nil) ?_
    refine run_cond (.t rfl) rfl (fun h5 => ?_) (fun h5 => ?_)
    · try simp only [Bool.and_eq_true, Bool.or_eq_true, Bool.not_eq_true', Bool.and_eq_false_iff, Bool.or_eq_false_iff, Bool.not_eq_false', decide_eq_true_eq, decide_eq_false_iff_not, beq_iff_eq, bne_iff_ne, beq_eq_false_iff_ne, bne_eq_false_iff_eq, Bool.true_and, ne_eq, Decidable.not_not, Int.not_lt, Int.not_le, Nat.not_lt, Nat.not_le, strB_nil, strB_nil', strB_nnil, strB_nnil'] at h5
      refine run_seq ?_
      refine run_region (q_assign .n (.c rfl) rfl <|
          q_assign .n (.c rfl) rfl <|
          Lex.nil) ?_
      exact run_ret [] (.cons (.t rfl rfl) (.cons (.t rfl rfl) .nil)) rfl trivial rfl
    · try simp only [Bool.and_eq_true, Bool.or_eq_true, Bool.not_eq_true', Bool.and_eq_false_iff, Bool.or_eq_false_iff, Bool.not_eq_false', decide_eq_true_eq, decide_eq_false_iff_not, beq_iff_eq, bne_iff_ne, beq_eq_false_iff_ne, bne_eq_false_iff_eq, Bool.true_and, ne_eq, Decidable.not_not, Int.not_lt, Int.not_le, Nat.not_lt, Nat.not_le, strB_nil, strB_nil', strB_nnil, strB_nnil'] at h5
      refine run_skip ?_
      refine run_seq ?_
      refine run_region (q_assign .n (.c rfl) rfl <|
          Lex.nil) ?_
      refine run_seq ?_
      refine run_seq ?_
      refine run_region (q_move .n (.t rfl) rfl <|
          q_assign .n (.t rfl) rfl <|
          Lex.nil) ?_
      refine run_block ?_
      refine run_LOOP (m_spec_l01Number_b1 s_ v1) _ _ _ rfl (fun (x1 : Int × Int) => v1 ≤ x1.2 ∧ x1.2 ≤ (s_.length : Int)) (fun x1 => v1 ≤ x1.2 ∧ x1.2 ≤ (s_.length : Int) ∧ (s_.length : Int) ≤ x1.2) (fun x1 => ((s_.length : Int) - x1.2 : Int).toNat) (fun x1 => ⟨[(0, some (true, .str s_)), (4, some (true, .int .i64 v1)), (5, some (true, .int .i64 x1.1)), (6, some (true, .int .i64 x1.2))], []⟩) (fun x1 => ⟨[(4, some (true, .int .i64 v1)), (5, some (true, .int .i64 x1.1))], []⟩) ⟨by first | omega | assumption | (simp only [List.length_append, List.length_cons, List.length_nil, List.length_replicate, put_len] at * <;> omega), by first | omega | assumption | (simp only [List.length_append, List.length_cons, List.length_nil, List.length_replicate, put_len] at * <;> omega)⟩ (by first | omega | assumption | (simp only [List.length_append, List.length_cons, List.length_nil, List.length_replicate, put_len] at * <;> omega)) (sub_of [] ⟨rfl, rfl, rfl, rfl, trivial⟩ trivial rfl) ?_ ?_
      · intro x1 i10
        obtain ⟨e12, e13, e14⟩ := i10
        try dsimp only at *
        refine run_seq ?_
        refine run_seq ?_
        refine run_region (q_move .n (.t rfl) rfl <|
            q_int .n (.t rfl) (.c rfl) rfl rfl <|
            Lex.nil) ?_
        refine run_cond (.t rfl) rfl (fun h11 => ?_) (fun h11 => ?_)
        · try simp only [Bool.and_eq_true, Bool.or_eq_true, Bool.not_eq_true', Bool.and_eq_false_iff, Bool.or_eq_false_iff, Bool.not_eq_false', decide_eq_true_eq, decide_eq_false_iff_not, beq_iff_eq, bne_iff_ne, beq_eq_false_iff_ne, bne_eq_false_iff_eq, Bool.true_and, ne_eq, Decidable.not_not, Int.not_lt, Int.not_le, Nat.not_lt, Nat.not_le, strB_nil, strB_nil', strB_nnil, strB_nnil'] at h11
          refine run_region (q_move .n (.t rfl) rfl <|
              q_neg .n (.t rfl) rfl <|
              q_assign .n (.t rfl) rfl <|
              Lex.nil) ?_
          refine run_seq ?_
          refine run_region (q_move .n (.t rfl) rfl <|
              q_assign .n (.t rfl) rfl <|
              q_assign .n (.c rfl) rfl <|
              Lex.nil) ?_
          exact run_ret [] (.cons (.t rfl rfl) (.cons (.t rfl rfl) .nil)) rfl trivial rfl
        · try simp only [Bool.and_eq_true, Bool.or_eq_true, Bool.not_eq_true', Bool.and_eq_false_iff, Bool.or_eq_false_iff, Bool.not_eq_false', decide_eq_true_eq, decide_eq_false_iff_not, beq_iff_eq, bne_iff_ne, beq_eq_false_iff_ne, bne_eq_false_iff_eq, Bool.true_and, ne_eq, Decidable.not_not, Int.not_lt, Int.not_le, Nat.not_lt, Nat.not_le, strB_nil, strB_nil', strB_nnil, strB_nnil'] at h11
          refine run_skip ?_
          refine run_seq ?_
          refine run_region (q_move .n (.t rfl) rfl <|
              q_assign .n (.t rfl) rfl <|
              q_assign .n (.c rfl) rfl <|
              Lex.nil) ?_
          exact run_ret [] (.cons (.t rfl rfl) (.cons (.t rfl rfl) .nil)) rfl trivial rfl
      · intro rec1 k1 hk6 x1 i7
        obtain ⟨e15, e16⟩ := i7
        try dsimp only at *
        refine run_seq ?_
        refine run_seq ?_
        refine run_region (q_move .n (.t rfl) rfl <|
            q_move .n (.t rfl) rfl <|
            q_len .n (.t rfl) rfl rfl st_9 rfl <|
            q_int .n (.t rfl) (.t rfl) rfl rfl <|
            Lex.nil) ?_
        refine run_cond (.t rfl) rfl (fun h8 => ?_) (fun h8 => ?_)
        · try simp only [Bool.and_eq_true, Bool.or_eq_true, Bool.not_eq_true', Bool.and_eq_false_iff, Bool.or_eq_false_iff, Bool.not_eq_false', decide_eq_true_eq, decide_eq_false_iff_not, beq_iff_eq, bne_iff_ne, beq_eq_false_iff_ne, bne_eq_false_iff_eq, Bool.true_and, ne_eq, Decidable.not_not, Int.not_lt, Int.not_le, Nat.not_lt, Nat.not_le, strB_nil, strB_nil', strB_nnil, strB_nnil'] at h8
          refine run_skip ?_
          refine run_seq ?_
          refine run_block ?_
          refine run_seq ?_
          refine run_seq ?_
          refine run_region (q_move .n (.t rfl) rfl <|
              q_move .n (.t rfl) rfl <|
              q_strat .n (.t rfl) (.t rfl) st_9 (fun _ => by first | omega | assumption | (simp only [List.length_append, List.length_cons, List.length_nil, List.length_replicate, put_len] at * <;> omega)) rfl <|
              q_call0 (full := false) .n .f en_51 (.cons (.t rfl) .nil) (.cons (.b (.a (.same rfl))) .nil) (fun hg => c_spec_l01Digit (((s_.getD x1.2.toNat 0).toNat : Nat) : Int)) rfl (fun h => Bool.noConfusion h) rfl <|
              q_not .n (.t rfl) rfl <|
              Lex.nil) ?_
          refine run_cond (.t rfl) rfl (fun h9 => ?_) (fun h9 => ?_)
          · try simp only [Bool.and_eq_true, Bool.or_eq_true, Bool.not_eq_true', Bool.and_eq_false_iff, Bool.or_eq_false_iff, Bool.not_eq_false', decide_eq_true_eq, decide_eq_false_iff_not, beq_iff_eq, bne_iff_ne, beq_eq_false_iff_ne, bne_eq_false_iff_eq, Bool.true_and, ne_eq, Decidable.not_not, Int.not_lt, Int.not_le, Nat.not_lt, Nat.not_le, strB_nil, strB_nil', strB_nnil, strB_nnil'] at h9
            refine run_seq ?_
            refine run_region (q_assign .n (.c rfl) rfl <|
                q_assign .n (.c rfl) rfl <|
                Lex.nil) ?_
            exact run_ret [] (.cons (.t rfl rfl) (.cons (.t rfl rfl) .nil)) rfl trivial rfl
          · try simp only [Bool.and_eq_true, Bool.or_eq_true, Bool.not_eq_true', Bool.and_eq_false_iff, Bool.or_eq_false_iff, Bool.not_eq_false', decide_eq_true_eq, decide_eq_false_iff_not, beq_iff_eq, bne_iff_ne, beq_eq_false_iff_ne, bne_eq_false_iff_eq, Bool.true_and, ne_eq, Decidable.not_not, Int.not_lt, Int.not_le, Nat.not_lt, Nat.not_le, strB_nil, strB_nil', strB_nnil, strB_nnil'] at h9
            refine run_skip ?_
            refine run_region (q_move .n (.t rfl) rfl <|
                q_int .n (.c rfl) (.t rfl) rfl rfl <|
                q_move .n (.t rfl) rfl <|
                q_move .n (.t rfl) rfl <|
                q_strat .n (.t rfl) (.t rfl) st_9 (fun _ => by first | omega | assumption | (simp only [List.length_append, List.length_cons, List.length_nil, List.length_replicate, put_len] at * <;> omega)) rfl <|
                q_int .n (.t rfl) (.c rfl) rfl rfl <|
                q_conv .n (.t rfl) cv_5_2 rfl <|
                q_int .n (.t rfl) (.t rfl) rfl rfl <|
                q_assign .n (.t rfl) rfl <|
                Lex.nil) ?_
            refine run_endB ?_
            refine run_region (q_move .n (.t rfl) rfl <|
                q_add .n (.t rfl) (.c rfl) (fun _ => by first | omega | assumption | (simp only [List.length_append, List.length_cons, List.length_nil, List.length_replicate, put_len] at * <;> omega)) rfl <|
                q_assign .n (.t rfl) rfl <|
                Lex.nil) ?_
            exact run_again (IntKind.wrap .i64 ((IntKind.wrap .i64 (10 * x1.1)) + (IntKind.wrap .i64 (IntKind.wrap .u8 ((((s_.getD x1.2.toNat 0).toNat : Nat) : Int) - 48)))), x1.2 + 1) ⟨by first | omega | assumption | (simp only [List.length_append, List.length_cons, List.length_nil, List.length_replicate, put_len] at * <;> omega), by first | omega | assumption | (simp only [List.length_append, List.length_cons, List.length_nil, List.length_replicate, put_len] at * <;> omega)⟩ (by first | omega | assumption | (simp only [List.length_append, List.length_cons, List.length_nil, List.length_replicate, put_len] at * <;> omega)) (sub_of [] ⟨rfl, rfl, rfl, rfl, trivial⟩ trivial rfl)
        · try simp only [Bool.and_eq_true, Bool.or_eq_true, Bool.not_eq_true', Bool.and_eq_false_iff, Bool.or_eq_false_iff, Bool.not_eq_false', decide_eq_true_eq, decide_eq_false_iff_not, beq_iff_eq, bne_iff_ne, beq_eq_false_iff_ne, bne_eq_false_iff_eq, Bool.true_and, ne_eq, Decidable.not_not, Int.not_lt, Int.not_le, Nat.not_lt, Nat.not_le, strB_nil, strB_nil', strB_nnil, strB_nnil'] at h8
          refine run_exit rfl ?_
          exact run_cont hk6 (x1.1, x1.2) ⟨by first | omega | assumption | (simp only [List.length_append, List.length_cons, List.length_nil, List.length_replicate, put_len] at * <;> omega), by first | omega | assumption | (simp only [List.length_append, List.length_cons, List.length_nil, List.length_replicate, put_len] at * <;> omega), by first | omega | assumption | (simp only [List.length_append, List.length_cons, List.length_nil, List.length_replicate, put_len] at * <;> omega)⟩ (sub_of [] ⟨rfl, rfl, trivial⟩ trivial rfl)
  · refine run_cond (.t rfl) rfl (fun h4 => ?_) (fun h4 => ?_)
    · try simp only [Bool.and_eq_true, Bool.or_eq_true, Bool.not_eq_true', Bool.and_eq_false_iff, Bool.or_eq_false_iff, Bool.not_eq_false', decide_eq_true_eq, decide_eq_false_iff_not, beq_iff_eq, bne_iff_ne, beq_eq_false_iff_ne, bne_eq_false_iff_eq, Bool.true_and, ne_eq, Decidable.not_not, Int.not_lt, Int.not_le, Nat.not_lt, Nat.not_le, strB_nil, strB_nil', strB_nnil, strB_nnil'] at h4
      refine run_region (q_assign .n (.c rfl) rfl <|
          Lex.nil) ?_
      exact run_cont hj3 1 (by first | omega | assumption | (simp only [List.length_append, List.length_cons, List.length_nil, List.length_replicate, put_len] at * <;> omega)) (sub_of [] ⟨rfl, rfl, trivial⟩ trivial rfl)
    · try simp only [Bool.and_eq_true, Bool.or_eq_true, Bool.not_eq_true', Bool.and_eq_false_iff, Bool.or_eq_false_iff, Bool.not_eq_false', decide_eq_true_eq, decide_eq_false_iff_not, beq_iff_eq, bne_iff_ne, beq_eq_false_iff_ne, bne_eq_false_iff_eq, Bool.true_and, ne_eq, Decidable.not_not, Int.not_lt, Int.not_le, Nat.not_lt, Nat.not_le, strB_nil, strB_nil', strB_nnil, strB_nnil'] at h4
      refine run_skip ?_
      exact run_cont hj3 0 (by first | omega | assumption | (simp only [List.length_append, List.length_cons, List.length_nil, List.length_replicate, put_len] at * <;> omega)) (sub_of [] ⟨rfl, rfl, trivial⟩ trivial rfl)

/-! ### spec_l00In -/
theorem c_spec_l00In (n_ : Int) (low : Int) (high : Int) : Con Tryd.prog 36 [.int .i64 n_, .int .i64 low, .int .i64 high] [] (.bool (m_spec_l00In n_ low high)) ([]) := by
  refine con_intro (out := fun r : Bool => ((.bool r : V), ([] : List (Nat × Option O)))) (r := (m_spec_l00In n_ low high)) Tryd.func36 rfl Tryd.ntmps36 rfl ?_
  refine run_seq ?_
  refine run_region (q_assign .n (.c rfl) rfl <|
      Lex.nil) ?_
  refine run_seq ?_
  refine run_region (q_move .n (.t rfl) rfl <|
      q_move .n (.t rfl) rfl <|
      q_int .n (.t rfl) (.t rfl) rfl rfl <|
      q_move .n (.t rfl) rfl <|
      q_move (.t rfl rfl) (.t rfl) rfl <|
      q_move (.t rfl rfl) (.t rfl) rfl <|
      q_int (.t rfl rfl) (.u rfl id) (.u rfl id) rfl rfl <|
      q_and .n (.t rfl) (.u rfl id) rfl <|
      q_assign .n (.t rfl) rfl <|
      Lex.nil) ?_
  exact run_ret [] (.cons (.t rfl rfl) .nil) rfl trivial rfl

/-! ### spec_ReadList -/
theorem c_spec_ReadList (s_ : List UInt8) (hp1 : s_.length ≤ 1048576) : Con Tryd.prog 20 [.str s_] [] (.tup [.os 100 (m_spec_ReadList s_).1.length, .bool (m_spec_ReadList s_).2]) ([(100, some (.row 2 1 ((m_spec_ReadList s_).1.map (V.int .i64))))]) := by
  refine con_intro (out := fun r : (List Int) × Bool => ((.tup [.os 100 r.1.length, .bool r.2] : V), ([(100, some (.row 2 1 (r.1.map (V.int .i64))))] : List (Nat × Option O)))) (r := (m_spec_ReadList s_)) Tryd.func20 rfl Tryd.ntmps20 rfl ?_
  refine run_seq ?_
  refine run_region (q_assign .n (.c rfl) rfl <|
      q_assign .n (.c rfl) rfl <|
      Lex.nil) ?_
  refine run_seq ?_
  refine run_seq ?_
  refine run_region (q_move .n (.t rfl) rfl <|
      q_strcmp .n (.t rfl) (.c rfl) rfl rfl <|
      Lex.nil) ?_
  refine run_cond (.t rfl) rfl (fun h1 => ?_) (fun h1 => ?_)
  · try simp only [Bool.and_eq_true, Bool.or_eq_true, Bool.not_eq_true', Bool.and_eq_false_iff, Bool.or_eq_false_iff, Bool.not_eq_false', decide_eq_true_eq, decide_eq_false_iff_not, beq_iff_eq, bne_iff_ne, beq_eq_false_iff_ne, bne_eq_false_iff_eq, Bool.true_and, ne_eq, Decidable.not_not, Int.not_lt, Int.not_le, Nat.not_lt, Nat.not_le, strB_nil, strB_nil', strB_nnil, strB_nnil'] at h1
    refine run_seq ?_
    refine run_region (q_bslicem ([] : List Int) (f := V.int .i64) (l := 200) .n rfl rfl .nil rfl si_45 zv_2 rfl rfl rfl <|
        q_assign .n (.t rfl) rfl <|
        q_assign .n (.c rfl) rfl <|
        Lex.nil) ?_
    exact run_ret [(100, 200)] (.cons (.t rfl rfl) (.cons (.t rfl rfl) .nil)) (by first | rfl | (simp only [put_len]; rfl)) ⟨rfl, trivial⟩ rfl
  · try simp only [Bool.and_eq_true, Bool.or_eq_true, Bool.not_eq_true', Bool.and_eq_false_iff, Bool.or_eq_false_iff, Bool.not_eq_false', decide_eq_true_eq, decide_eq_false_iff_not, beq_iff_eq, bne_iff_ne, beq_eq_false_iff_ne, bne_eq_false_iff_eq, Bool.true_and, ne_eq, Decidable.not_not, Int.not_lt, Int.not_le, Nat.not_lt, Nat.not_le, strB_nil, strB_nil', strB_nnil, strB_nnil'] at h1
    refine run_skip ?_
    refine run_seq ?_
    refine run_region (q_move .n (.t rfl) rfl <|
        q_callM (full := false) [] [(100, 201)] .n rfl .f en_19 (.cons (.t rfl) (.cons (.c rfl) .nil)) (.cons (.b (.a (.same rfl))) (.cons (.b (.a (.same rfl))) .nil)) (c_spec_l01Split s_ 44 (by first | omega | assumption | (simp only [List.length_append, List.length_cons, List.length_nil, List.length_replicate, put_len] at * <;> omega) | (exact split_memA hp1 (by omega))) (by first | omega | assumption | (simp only [List.length_append, List.length_cons, List.length_nil, List.length_replicate, put_len] at * <;> omega) | (exact split_memA hp1 (by omega)))) trivial rfl rfl (fun h => Bool.noConfusion h) (fun h => Bool.noConfusion h) rfl <|
        q_assign .n (.t rfl) rfl <|
        Lex.nil) ?_
    refine run_seq ?_
    refine run_seq ?_
    refine run_region (q_move .n (.t rfl) rfl <|
        q_len .n (.t rfl) rfl rfl ss_43 rfl <|
        q_int .n (.t rfl) (.c rfl) rfl rfl <|
        Lex.nil) ?_
    refine run_cond (.t rfl) rfl (fun h2 => ?_) (fun h2 => ?_)
    · try simp only [Bool.and_eq_true, Bool.or_eq_true, Bool.not_eq_true', Bool.and_eq_false_iff, Bool.or_eq_false_iff, Bool.not_eq_false', decide_eq_true_eq, decide_eq_false_iff_not, beq_iff_eq, bne_iff_ne, beq_eq_false_iff_ne, bne_eq_false_iff_eq, Bool.true_and, ne_eq, Decidable.not_not, Int.not_lt, Int.not_le, Nat.not_lt, Nat.not_le, strB_nil, strB_nil', strB_nnil, strB_nnil'] at h2
      refine run_seq ?_
      refine run_region (q_assign .n (.c rfl) rfl <|
          q_assign .n (.c rfl) rfl <|
          Lex.nil) ?_
      refine run_sub (sub_adopt (t := 2) (l := 202) (el := 2) (sz := 1) rfl rfl) ?_
      exact run_ret [(100, 202)] (.cons (.t rfl rfl) (.cons (.t rfl rfl) .nil)) (by first | rfl | (simp only [put_len]; rfl)) ⟨rfl, trivial⟩ rfl
    · try simp only [Bool.and_eq_true, Bool.or_eq_true, Bool.not_eq_true', Bool.and_eq_false_iff, Bool.or_eq_false_iff, Bool.not_eq_false', decide_eq_true_eq, decide_eq_false_iff_not, beq_iff_eq, bne_iff_ne, beq_eq_false_iff_ne, bne_eq_false_iff_eq, Bool.true_and, ne_eq, Decidable.not_not, Int.not_lt, Int.not_le, Nat.not_lt, Nat.not_le, strB_nil, strB_nil', strB_nnil, strB_nnil'] at h2
      refine run_skip ?_
      refine run_seq ?_
      refine run_region (q_bslicem ([] : List Int) (f := V.int .i64) (l := 203) .n rfl rfl .nil rfl si_45 zv_2 rfl rfl rfl <|
          q_assign .n (.t rfl) rfl <|
          Lex.nil) ?_
      refine run_seq ?_
      refine run_seq ?_
      refine run_region (q_assign .n (.c rfl) rfl <|
          Lex.nil) ?_
      refine run_block ?_
      refine run_LOOP (m_spec_ReadList_b1 s_) _ _ _ rfl (fun (x1 : (List Int) × Int) => 0 ≤ x1.2 ∧ x1.2 ≤ ((m_spec_l01Split s_ 44).length : Int) ∧ (x1.1.length : Int) + 0 ≤ x1.2 + (([] : List Int).length : Int)) (fun x1 => 0 ≤ x1.2 ∧ x1.2 ≤ ((m_spec_l01Split s_ 44).length : Int) ∧ (x1.1.length : Int) + 0 ≤ x1.2 + (([] : List Int).length : Int) ∧ ((m_spec_l01Split s_ 44).length : Int) ≤ x1.2) (fun x1 => (((m_spec_l01Split s_ 44).length : Int) - x1.2 : Int).toNat) (fun x1 => ⟨[(4, some (true, .os 201 (m_spec_l01Split s_ 44).length)), (5, some (true, .os 203 x1.1.length)), (6, some (true, .int .i64 x1.2))], [(201, some (.row 9 1 ((m_spec_l01Split s_ 44).map V.str))), (203, some (.row 2 1 (x1.1.map (V.int .i64))))]⟩) (fun x1 => ⟨[(5, some (true, .os 203 x1.1.length))], [(203, some (.row 2 1 (x1.1.map (V.int .i64))))]⟩) ⟨by first | omega | assumption | (simp only [List.length_append, List.length_cons, List.length_nil, List.length_replicate, put_len] at * <;> omega) | (exact split_memA hp1 (by omega)), by first | omega | assumption | (simp only [List.length_append, List.length_cons, List.length_nil, List.length_replicate, put_len] at * <;> omega) | (exact split_memA hp1 (by omega)), by first | omega | assumption | (simp only [List.length_append, List.length_cons, List.length_nil, List.length_replicate, put_len] at * <;> omega) | (exact split_memA hp1 (by omega))⟩ (by first | omega | assumption | (simp only [List.length_append, List.length_cons, List.length_nil, List.length_replicate, put_len] at * <;> omega) | (exact split_memA hp1 (by omega))) (sub_of [] ⟨rfl, rfl, rfl, trivial⟩ ⟨rfl, rfl, trivial⟩ rfl) ?_ ?_
      · intro x1 i7
        obtain ⟨e8, e9, e10, e11⟩ := i7
        try dsimp only at *
        refine run_seq ?_
        refine run_region (q_move .n (.t rfl) rfl <|
            q_assign .n (.t rfl) rfl <|
            q_assign .n (.c rfl) rfl <|
            Lex.nil) ?_
        exact run_ret [(100, 203)] (.cons (.t rfl rfl) (.cons (.t rfl rfl) .nil)) (by first | rfl | (simp only [put_len]; rfl)) ⟨rfl, trivial⟩ rfl
      · intro rec1 k1 hk3 x1 i4
        obtain ⟨e12, e13, e14⟩ := i4
        try dsimp only at *
        refine run_seq ?_
        refine run_seq ?_
        refine run_region (q_move .n (.t rfl) rfl <|
            q_move .n (.t rfl) rfl <|
            q_len .n (.t rfl) rfl rfl ss_43 rfl <|
            q_int .n (.t rfl) (.t rfl) rfl rfl <|
            Lex.nil) ?_
        refine run_cond (.t rfl) rfl (fun h5 => ?_) (fun h5 => ?_)
        · try simp only [Bool.and_eq_true, Bool.or_eq_true, Bool.not_eq_true', Bool.and_eq_false_iff, Bool.or_eq_false_iff, Bool.not_eq_false', decide_eq_true_eq, decide_eq_false_iff_not, beq_iff_eq, bne_iff_ne, beq_eq_false_iff_ne, bne_eq_false_iff_eq, Bool.true_and, ne_eq, Decidable.not_not, Int.not_lt, Int.not_le, Nat.not_lt, Nat.not_le, strB_nil, strB_nil', strB_nnil, strB_nnil'] at h5
          refine run_skip ?_
          refine run_seq ?_
          refine run_block ?_
          refine run_seq ?_
          refine run_region (q_move .n (.t rfl) rfl <|
              q_move .n (.t rfl) rfl <|
              q_idx_ow .n (.t rfl) (.t rfl) sl_43 (fun _ => by first | omega | assumption | (simp only [List.length_append, List.length_cons, List.length_nil, List.length_replicate, put_len] at * <;> omega) | (exact split_memA hp1 (by omega))) rfl <|
              q_ld1_row .n (.t rfl) rfl (fun _ => by first | omega | assumption | (simp only [List.length_append, List.length_cons, List.length_nil, List.length_replicate, put_len] at * <;> omega) | (exact split_memA hp1 (by omega))) rfl rfl rfl ic_9 rfl <|
              q_call0 (full := false) .n .f en_35 (.cons (.t rfl) .nil) (.cons (.b (.a (.same rfl))) .nil) (fun hg => c_spec_l01Number (at' (m_spec_l01Split s_ 44) x1.2) (by first | omega | assumption | (simp only [List.length_append, List.length_cons, List.length_nil, List.length_replicate, put_len] at * <;> omega) | (exact split_memA hp1 (by omega)))) rfl (fun h => Bool.noConfusion h) rfl <|
              q_move .n (.t rfl) rfl <|
              q_ext .n (.t rfl) rfl rfl rfl <|
              q_ext .n (.t rfl) rfl rfl rfl <|
              q_assign .n (.t rfl) rfl <|
              q_assign .n (.t rfl) rfl <|
              Lex.nil) ?_
          refine run_seq ?_
          refine run_seq ?_
          refine run_region (q_move .n (.t rfl) rfl <|
              q_not .n (.t rfl) rfl <|
              q_move .n (.t rfl) rfl <|
              q_move (.f rfl rfl) (.t rfl) rfl <|
              q_call0 (full := false) (.f rfl rfl) .f en_36 (.cons (.u rfl id) (.cons (.c rfl) (.cons (.c rfl) .nil))) (.cons (.b (.a (.same rfl))) (.cons (.b (.a (.same rfl))) (.cons (.b (.a (.same rfl))) .nil))) (fun hg => c_spec_l00In (m_spec_l01Number (at' (m_spec_l01Split s_ 44) x1.2)).1 (-1000000000000) 1000000000000) rfl (fun h => Bool.noConfusion h) rfl <|
              q_not (.f rfl rfl) (.u rfl id) rfl <|
              q_or .n (.t rfl) (.u rfl id) rfl <|
              Lex.nil) ?_
          refine run_cond (.t rfl) rfl (fun h6 => ?_) (fun h6 => ?_)
          · try simp only [Bool.and_eq_true, Bool.or_eq_true, Bool.not_eq_true', Bool.and_eq_false_iff, Bool.or_eq_false_iff, Bool.not_eq_false', decide_eq_true_eq, decide_eq_false_iff_not, beq_iff_eq, bne_iff_ne, beq_eq_false_iff_ne, bne_eq_false_iff_eq, Bool.true_and, ne_eq, Decidable.not_not, Int.not_lt, Int.not_le, Nat.not_lt, Nat.not_le, strB_nil, strB_nil', strB_nnil, strB_nnil'] at h6
            try have hf0h6 := l00In_imp h6
            try have hf1h6 := l00In_imp h6.1
            try have hf2h6 := l00In_imp h6.2
            try have hf3h6 := l00In_imp h6.1.1
            try have hf4h6 := l00In_imp h6.1.2
            try have hf5h6 := l00In_imp h6.2.1
            try have hf6h6 := l00In_imp h6.2.2
            refine run_seq ?_
            refine run_region (q_assign .n (.c rfl) rfl <|
                q_assign .n (.c rfl) rfl <|
                Lex.nil) ?_
            refine run_sub (sub_adopt (t := 2) (l := 204) (el := 2) (sz := 1) rfl rfl) ?_
            exact run_ret [(100, 204)] (.cons (.t rfl rfl) (.cons (.t rfl rfl) .nil)) (by first | rfl | (simp only [put_len]; rfl)) ⟨rfl, trivial⟩ rfl
          · try simp only [Bool.and_eq_true, Bool.or_eq_true, Bool.not_eq_true', Bool.and_eq_false_iff, Bool.or_eq_false_iff, Bool.not_eq_false', decide_eq_true_eq, decide_eq_false_iff_not, beq_iff_eq, bne_iff_ne, beq_eq_false_iff_ne, bne_eq_false_iff_eq, Bool.true_and, ne_eq, Decidable.not_not, Int.not_lt, Int.not_le, Nat.not_lt, Nat.not_le, strB_nil, strB_nil', strB_nnil, strB_nnil'] at h6
            try have hf0h6 := l00In_imp h6
            try have hf1h6 := l00In_imp h6.1
            try have hf2h6 := l00In_imp h6.2
            try have hf3h6 := l00In_imp h6.1.1
            try have hf4h6 := l00In_imp h6.1.2
            try have hf5h6 := l00In_imp h6.2.1
            try have hf6h6 := l00In_imp h6.2.2
            refine run_skip ?_
            refine run_region (q_move .n (.t rfl) rfl <|
                q_move .n (.t rfl) rfl <|
                q_bslicem ([(m_spec_l01Number (at' (m_spec_l01Split s_ 44) x1.2)).1] : List Int) (f := V.int .i64) (l := 205) .n rfl rfl (.cons (.t rfl) .nil) rfl si_45 zv_2 rfl rfl rfl <|
                q_appm (xs := x1.1) (ys := ([(m_spec_l01Number (at' (m_spec_l01Split s_ 44) x1.2)).1] : List Int)) (f := V.int .i64) (l := 206) .n rfl (.ow (.t rfl) rfl (take_all (by simp only [len_map, put_len] <;> rfl)) (by simp only [len_map, put_len] <;> rfl)) (.ow (.t rfl) rfl (take_all (by simp only [len_map, put_len] <;> rfl)) (by simp only [len_map, put_len] <;> rfl)) si_45 zv_2 rfl (by first | omega | assumption | (simp only [List.length_append, List.length_cons, List.length_nil, List.length_replicate, put_len] at * <;> omega) | (exact split_memA hp1 (by omega))) rfl rfl <|
                q_assign .n (.t rfl) rfl <|
                Lex.nil) ?_
            refine run_endB ?_
            refine run_region (q_move .n (.t rfl) rfl <|
                q_add .n (.t rfl) (.c rfl) (fun _ => by first | omega | assumption | (simp only [List.length_append, List.length_cons, List.length_nil, List.length_replicate, put_len] at * <;> omega) | (exact split_memA hp1 (by omega))) rfl <|
                q_assign .n (.t rfl) rfl <|
                Lex.nil) ?_
            exact run_again (x1.1 ++ ([(m_spec_l01Number (at' (m_spec_l01Split s_ 44) x1.2)).1] : List Int), x1.2 + 1) ⟨by first | omega | assumption | (simp only [List.length_append, List.length_cons, List.length_nil, List.length_replicate, put_len] at * <;> omega) | (exact split_memA hp1 (by omega)), by first | omega | assumption | (simp only [List.length_append, List.length_cons, List.length_nil, List.length_replicate, put_len] at * <;> omega) | (exact split_memA hp1 (by omega)), by first | omega | assumption | (simp only [List.length_append, List.length_cons, List.length_nil, List.length_replicate, put_len] at * <;> omega) | (exact split_memA hp1 (by omega))⟩ (by first | omega | assumption | (simp only [List.length_append, List.length_cons, List.length_nil, List.length_replicate, put_len] at * <;> omega) | (exact split_memA hp1 (by omega))) (sub_of [(203, 206)] ⟨rfl, rfl, rfl, trivial⟩ ⟨rfl, rfl, trivial⟩ rfl)
        · try simp only [Bool.and_eq_true, Bool.or_eq_true, Bool.not_eq_true', Bool.and_eq_false_iff, Bool.or_eq_false_iff, Bool.not_eq_false', decide_eq_true_eq, decide_eq_false_iff_not, beq_iff_eq, bne_iff_ne, beq_eq_false_iff_ne, bne_eq_false_iff_eq, Bool.true_and, ne_eq, Decidable.not_not, Int.not_lt, Int.not_le, Nat.not_lt, Nat.not_le, strB_nil, strB_nil', strB_nnil, strB_nnil'] at h5
          refine run_exit rfl ?_
          exact run_cont hk3 (x1.1, x1.2) ⟨by first | omega | assumption | (simp only [List.length_append, List.length_cons, List.length_nil, List.length_replicate, put_len] at * <;> omega) | (exact split_memA hp1 (by omega)), by first | omega | assumption | (simp only [List.length_append, List.length_cons, List.length_nil, List.length_replicate, put_len] at * <;> omega) | (exact split_memA hp1 (by omega)), by first | omega | assumption | (simp only [List.length_append, List.length_cons, List.length_nil, List.length_replicate, put_len] at * <;> omega) | (exact split_memA hp1 (by omega)), by first | omega | assumption | (simp only [List.length_append, List.length_cons, List.length_nil, List.length_replicate, put_len] at * <;> omega) | (exact split_memA hp1 (by omega))⟩ (sub_of [] ⟨rfl, trivial⟩ ⟨rfl, trivial⟩ rfl)

/-! ### spec_l26Name -/
theorem c_spec_l26Name (kind : Int) : Con Tryd.prog 45 [.int .i64 kind] [] (.str (m_spec_l26Name kind)) ([]) := by
  refine con_intro (out := fun r : (List UInt8) => ((.str r : V), ([] : List (Nat × Option O)))) (r := (m_spec_l26Name kind)) Tryd.func45 rfl Tryd.ntmps45 rfl ?_
  refine run_seq ?_
  refine run_region (q_assign .n (.c rfl) rfl <|
      Lex.nil) ?_
  refine run_seq ?_
  refine run_seq ?_
  refine run_region (q_move .n (.t rfl) rfl <|
      Lex.nil) ?_
  refine run_block ?_
  refine run_seq ?_
  refine run_region (q_int .n (.t rfl) (.c rfl) rfl rfl <|
      q_assign .n (.t rfl) rfl <|
      Lex.nil) ?_
  refine run_cond (.t rfl) rfl (fun h1 => ?_) (fun h1 => ?_)
  · try simp only [Bool.and_eq_true, Bool.or_eq_true, Bool.not_eq_true', Bool.and_eq_false_iff, Bool.or_eq_false_iff, Bool.not_eq_false', decide_eq_true_eq, decide_eq_false_iff_not, beq_iff_eq, bne_iff_ne, beq_eq_false_iff_ne, bne_eq_false_iff_eq, Bool.true_and, ne_eq, Decidable.not_not, Int.not_lt, Int.not_le, Nat.not_lt, Nat.not_le, strB_nil, strB_nil', strB_nnil, strB_nnil'] at h1
    refine run_seq ?_
    refine run_region (q_assign .n (.c rfl) rfl <|
        Lex.nil) ?_
    exact run_ret [] (.cons (.t rfl rfl) .nil) rfl trivial rfl
  · try simp only [Bool.and_eq_true, Bool.or_eq_true, Bool.not_eq_true', Bool.and_eq_false_iff, Bool.or_eq_false_iff, Bool.not_eq_false', decide_eq_true_eq, decide_eq_false_iff_not, beq_iff_eq, bne_iff_ne, beq_eq_false_iff_ne, bne_eq_false_iff_eq, Bool.true_and, ne_eq, Decidable.not_not, Int.not_lt, Int.not_le, Nat.not_lt, Nat.not_le, strB_nil, strB_nil', strB_nnil, strB_nnil'] at h1
    refine run_seq ?_
    refine run_region (q_int .n (.t rfl) (.c rfl) rfl rfl <|
        q_assign .n (.t rfl) rfl <|
        Lex.nil) ?_
    refine run_cond (.t rfl) rfl (fun h2 => ?_) (fun h2 => ?_)
    · try simp only [Bool.and_eq_true, Bool.or_eq_true, Bool.not_eq_true', Bool.and_eq_false_iff, Bool.or_eq_false_iff, Bool.not_eq_false', decide_eq_true_eq, decide_eq_false_iff_not, beq_iff_eq, bne_iff_ne, beq_eq_false_iff_ne, bne_eq_false_iff_eq, Bool.true_and, ne_eq, Decidable.not_not, Int.not_lt, Int.not_le, Nat.not_lt, Nat.not_le, strB_nil, strB_nil', strB_nnil, strB_nnil'] at h2
      refine run_seq ?_
      refine run_region (q_assign .n (.c rfl) rfl <|
          Lex.nil) ?_
      exact run_ret [] (.cons (.t rfl rfl) .nil) rfl trivial rfl
    · try simp only [Bool.and_eq_true, Bool.or_eq_true, Bool.not_eq_true', Bool.and_eq_false_iff, Bool.or_eq_false_iff, Bool.not_eq_false', decide_eq_true_eq, decide_eq_false_iff_not, beq_iff_eq, bne_iff_ne, beq_eq_false_iff_ne, bne_eq_false_iff_eq, Bool.true_and, ne_eq, Decidable.not_not, Int.not_lt, Int.not_le, Nat.not_lt, Nat.not_le, strB_nil, strB_nil', strB_nnil, strB_nnil'] at h2
      refine run_seq ?_
      refine run_region (q_int .n (.t rfl) (.c rfl) rfl rfl <|
          q_assign .n (.t rfl) rfl <|
          Lex.nil) ?_
      refine run_cond (.t rfl) rfl (fun h3 => ?_) (fun h3 => ?_)
      · try simp only [Bool.and_eq_true, Bool.or_eq_true, Bool.not_eq_true', Bool.and_eq_false_iff, Bool.or_eq_false_iff, Bool.not_eq_false', decide_eq_true_eq, decide_eq_false_iff_not, beq_iff_eq, bne_iff_ne, beq_eq_false_iff_ne, bne_eq_false_iff_eq, Bool.true_and, ne_eq, Decidable.not_not, Int.not_lt, Int.not_le, Nat.not_lt, Nat.not_le, strB_nil, strB_nil', strB_nnil, strB_nnil'] at h3
        refine run_seq ?_
        refine run_region (q_assign .n (.c rfl) rfl <|
            Lex.nil) ?_
        exact run_ret [] (.cons (.t rfl rfl) .nil) rfl trivial rfl
      · try simp only [Bool.and_eq_true, Bool.or_eq_true, Bool.not_eq_true', Bool.and_eq_false_iff, Bool.or_eq_false_iff, Bool.not_eq_false', decide_eq_true_eq, decide_eq_false_iff_not, beq_iff_eq, bne_iff_ne, beq_eq_false_iff_ne, bne_eq_false_iff_eq, Bool.true_and, ne_eq, Decidable.not_not, Int.not_lt, Int.not_le, Nat.not_lt, Nat.not_le, strB_nil, strB_nil', strB_nnil, strB_nnil'] at h3
        refine run_seq ?_
        refine run_region (q_int .n (.t rfl) (.c rfl) rfl rfl <|
            q_assign .n (.t rfl) rfl <|
            Lex.nil) ?_
        refine run_cond (.t rfl) rfl (fun h4 => ?_) (fun h4 => ?_)
        · try simp only [Bool.and_eq_true, Bool.or_eq_true, Bool.not_eq_true', Bool.and_eq_false_iff, Bool.or_eq_false_iff, Bool.not_eq_false', decide_eq_true_eq, decide_eq_false_iff_not, beq_iff_eq, bne_iff_ne, beq_eq_false_iff_ne, bne_eq_false_iff_eq, Bool.true_and, ne_eq, Decidable.not_not, Int.not_lt, Int.not_le, Nat.not_lt, Nat.not_le, strB_nil, strB_nil', strB_nnil, strB_nnil'] at h4
          refine run_seq ?_
          refine run_region (q_assign .n (.c rfl) rfl <|
              Lex.nil) ?_
          exact run_ret [] (.cons (.t rfl rfl) .nil) rfl trivial rfl
        · try simp only [Bool.and_eq_true, Bool.or_eq_true, Bool.not_eq_true', Bool.and_eq_false_iff, Bool.or_eq_false_iff, Bool.not_eq_false', decide_eq_true_eq, decide_eq_false_iff_not, beq_iff_eq, bne_iff_ne, beq_eq_false_iff_ne, bne_eq_false_iff_eq, Bool.true_and, ne_eq, Decidable.not_not, Int.not_lt, Int.not_le, Nat.not_lt, Nat.not_le, strB_nil, strB_nil', strB_nnil, strB_nnil'] at h4
          refine run_skip ?_
          refine run_endB ?_
          refine run_seq ?_
          refine run_region (q_assign .n (.c rfl) rfl <|
              Lex.nil) ?_
          exact run_ret [] (.cons (.t rfl rfl) .nil) rfl trivial rfl

/-! ### spec_l01Small -/
theorem c_spec_l01Small (c_ : Int) : Con Tryd.prog 52 [.int .u8 c_] [] (.bool (m_spec_l01Small c_)) ([]) := by
  refine con_intro (out := fun r : Bool => ((.bool r : V), ([] : List (Nat × Option O)))) (r := (m_spec_l01Small c_)) Tryd.func52 rfl Tryd.ntmps52 rfl ?_
  refine run_seq ?_
  refine run_region (q_assign .n (.c rfl) rfl <|
      Lex.nil) ?_
  refine run_seq ?_
  refine run_region (q_move .n (.t rfl) rfl <|
      q_int .n (.t rfl) (.c rfl) rfl rfl <|
      q_move .n (.t rfl) rfl <|
      q_move (.t rfl rfl) (.t rfl) rfl <|
      q_int (.t rfl rfl) (.u rfl id) (.c rfl) rfl rfl <|
      q_and .n (.t rfl) (.u rfl id) rfl <|
      q_assign .n (.t rfl) rfl <|
      Lex.nil) ?_
  exact run_ret [] (.cons (.t rfl rfl) .nil) rfl trivial rfl

/-! ### spec_l01Name -/
theorem c_spec_l01Name (s_ : List UInt8) : Con Tryd.prog 37 [.str s_] [] (.bool (m_spec_l01Name s_)) ([]) := by
  refine con_intro (out := fun r : Bool => ((.bool r : V), ([] : List (Nat × Option O)))) (r := (m_spec_l01Name s_)) Tryd.func37 rfl Tryd.ntmps37 rfl ?_
  refine run_seq ?_
  refine run_region (q_assign .n (.c rfl) rfl <|
      Lex.nil) ?_
  refine run_seq ?_
  refine run_seq ?_
  refine run_region (q_move .n (.t rfl) rfl <|
      q_strcmp .n (.t rfl) (.c rfl) rfl rfl <|
      q_move .n (.t rfl) rfl <|
      q_move (.f rfl rfl) (.t rfl) rfl <|
      q_len (.f rfl rfl) (.u rfl id) rfl rfl st_9 rfl <|
      q_int (.f rfl rfl) (.u rfl id) (.c rfl) rfl rfl <|
      q_or .n (.t rfl) (.u rfl id) rfl <|
      q_move .n (.t rfl) rfl <|
      q_move (.f rfl rfl) (.t rfl) rfl <|
      q_strat (.f rfl rfl) (.u rfl id) (.c rfl) st_9 (fun hg => by simp only [Bool.and_eq_true, Bool.or_eq_true, Bool.not_eq_true', Bool.and_eq_false_iff, Bool.or_eq_false_iff, Bool.not_eq_false', decide_eq_true_eq, decide_eq_false_iff_not, beq_iff_eq, bne_iff_ne, beq_eq_false_iff_ne, bne_eq_false_iff_eq, Bool.true_and, ne_eq, Decidable.not_not, Int.not_lt, Int.not_le, Nat.not_lt, Nat.not_le, strB_nil, strB_nil', strB_nnil, strB_nnil'] at hg; first | omega | assumption | (simp only [List.length_append, List.length_cons, List.length_nil, List.length_replicate, put_len] at * <;> omega)) rfl <|
      q_call0 (full := false) (.f rfl rfl) .f en_52 (.cons (.u rfl id) .nil) (.cons (.b (.a (.same rfl))) .nil) (fun hg => c_spec_l01Small (((s_.getD (0 : Int).toNat 0).toNat : Nat) : Int)) rfl (fun h => Bool.noConfusion h) rfl <|
      q_not (.f rfl rfl) (.u rfl id) rfl <|
      q_or .n (.t rfl) (.u rfl id) rfl <|
      Lex.nil) ?_
  refine run_cond (.t rfl) rfl (fun h1 => ?_) (fun h1 => ?_)
  · try simp only [Bool.and_eq_true, Bool.or_eq_true, Bool.not_eq_true', Bool.and_eq_false_iff, Bool.or_eq_false_iff, Bool.not_eq_false', decide_eq_true_eq, decide_eq_false_iff_not, beq_iff_eq, bne_iff_ne, beq_eq_false_iff_ne, bne_eq_false_iff_eq, Bool.true_and, ne_eq, Decidable.not_not, Int.not_lt, Int.not_le, Nat.not_lt, Nat.not_le, strB_nil, strB_nil', strB_nnil, strB_nnil'] at h1
    refine run_seq ?_
    refine run_region (q_assign .n (.c rfl) rfl <|
        Lex.nil) ?_
    exact run_ret [] (.cons (.t rfl rfl) .nil) rfl trivial rfl
  · try simp only [Bool.and_eq_true, Bool.or_eq_true, Bool.not_eq_true', Bool.and_eq_false_iff, Bool.or_eq_false_iff, Bool.not_eq_false', decide_eq_true_eq, decide_eq_false_iff_not, beq_iff_eq, bne_iff_ne, beq_eq_false_iff_ne, bne_eq_false_iff_eq, Bool.true_and, ne_eq, Decidable.not_not, Int.not_lt, Int.not_le, Nat.not_lt, Nat.not_le, strB_nil, strB_nil', strB_nnil, strB_nnil'] at h1
    refine run_skip ?_
    refine run_seq ?_
    refine run_seq ?_
    refine run_region (q_assign .n (.c rfl) rfl <|
        Lex.nil) ?_
    refine run_block ?_
    refine run_LOOP (m_spec_l01Name_b1 s_) _ _ _ rfl (fun (x1 : Int) => 0 ≤ x1 ∧ x1 ≤ (s_.length : Int)) (fun x1 => 0 ≤ x1 ∧ x1 ≤ (s_.length : Int) ∧ (s_.length : Int) ≤ x1) (fun x1 => ((s_.length : Int) - x1 : Int).toNat) (fun x1 => ⟨[(0, some (true, .str s_)), (3, some (true, .int .i64 x1))], []⟩) (fun x1 => ⟨[], []⟩) ⟨by first | omega | assumption | (simp only [List.length_append, List.length_cons, List.length_nil, List.length_replicate, put_len] at * <;> omega), by first | omega | assumption | (simp only [List.length_append, List.length_cons, List.length_nil, List.length_replicate, put_len] at * <;> omega)⟩ (by first | omega | assumption | (simp only [List.length_append, List.length_cons, List.length_nil, List.length_replicate, put_len] at * <;> omega)) (sub_of [] ⟨rfl, rfl, trivial⟩ trivial rfl) ?_ ?_
    · intro x1 i6
      obtain ⟨e7, e8, e9⟩ := i6
      try dsimp only at *
      refine run_seq ?_
      refine run_region (q_assign .n (.c rfl) rfl <|
          Lex.nil) ?_
      exact run_ret [] (.cons (.t rfl rfl) .nil) rfl trivial rfl
    · intro rec1 k1 hk2 x1 i3
      obtain ⟨e10, e11⟩ := i3
      try dsimp only at *
      refine run_seq ?_
      refine run_seq ?_
      refine run_region (q_move .n (.t rfl) rfl <|
          q_move .n (.t rfl) rfl <|
          q_len .n (.t rfl) rfl rfl st_9 rfl <|
          q_int .n (.t rfl) (.t rfl) rfl rfl <|
          Lex.nil) ?_
      refine run_cond (.t rfl) rfl (fun h4 => ?_) (fun h4 => ?_)
      · try simp only [Bool.and_eq_true, Bool.or_eq_true, Bool.not_eq_true', Bool.and_eq_false_iff, Bool.or_eq_false_iff, Bool.not_eq_false', decide_eq_true_eq, decide_eq_false_iff_not, beq_iff_eq, bne_iff_ne, beq_eq_false_iff_ne, bne_eq_false_iff_eq, Bool.true_and, ne_eq, Decidable.not_not, Int.not_lt, Int.not_le, Nat.not_lt, Nat.not_le, strB_nil, strB_nil', strB_nnil, strB_nnil'] at h4
        refine run_skip ?_
        refine run_seq ?_
        refine run_block ?_
        refine run_seq ?_
        refine run_region (q_move .n (.t rfl) rfl <|
            q_move .n (.t rfl) rfl <|
            q_strat .n (.t rfl) (.t rfl) st_9 (fun _ => by first | omega | assumption | (simp only [List.length_append, List.length_cons, List.length_nil, List.length_replicate, put_len] at * <;> omega)) rfl <|
            q_call0 (full := false) .n .f en_52 (.cons (.t rfl) .nil) (.cons (.b (.a (.same rfl))) .nil) (fun hg => c_spec_l01Small (((s_.getD x1.toNat 0).toNat : Nat) : Int)) rfl (fun h => Bool.noConfusion h) rfl <|
            q_not .n (.t rfl) rfl <|
            q_move .n (.t rfl) rfl <|
            q_move (.t rfl rfl) (.t rfl) rfl <|
            q_move (.t rfl rfl) (.t rfl) rfl <|
            q_strat (.t rfl rfl) (.u rfl id) (.u rfl id) st_9 (fun hg => by simp only [Bool.and_eq_true, Bool.or_eq_true, Bool.not_eq_true', Bool.and_eq_false_iff, Bool.or_eq_false_iff, Bool.not_eq_false', decide_eq_true_eq, decide_eq_false_iff_not, beq_iff_eq, bne_iff_ne, beq_eq_false_iff_ne, bne_eq_false_iff_eq, Bool.true_and, ne_eq, Decidable.not_not, Int.not_lt, Int.not_le, Nat.not_lt, Nat.not_le, strB_nil, strB_nil', strB_nnil, strB_nnil'] at hg; first | omega | assumption | (simp only [List.length_append, List.length_cons, List.length_nil, List.length_replicate, put_len] at * <;> omega)) rfl <|
            q_call0 (full := false) (.t rfl rfl) .f en_51 (.cons (.u rfl id) .nil) (.cons (.b (.a (.same rfl))) .nil) (fun hg => c_spec_l01Digit (((s_.getD x1.toNat 0).toNat : Nat) : Int)) rfl (fun h => Bool.noConfusion h) rfl <|
            q_not (.t rfl rfl) (.u rfl id) rfl <|
            q_and .n (.t rfl) (.u rfl id) rfl <|
            Lex.nil) ?_
        refine run_cond (.t rfl) rfl (fun h5 => ?_) (fun h5 => ?_)
        · try simp only [Bool.and_eq_true, Bool.or_eq_true, Bool.not_eq_true', Bool.and_eq_false_iff, Bool.or_eq_false_iff, Bool.not_eq_false', decide_eq_true_eq, decide_eq_false_iff_not, beq_iff_eq, bne_iff_ne, beq_eq_false_iff_ne, bne_eq_false_iff_eq, Bool.true_and, ne_eq, Decidable.not_not, Int.not_lt, Int.not_le, Nat.not_lt, Nat.not_le, strB_nil, strB_nil', strB_nnil, strB_nnil'] at h5
          refine run_seq ?_
          refine run_region (q_assign .n (.c rfl) rfl <|
              Lex.nil) ?_
          exact run_ret [] (.cons (.t rfl rfl) .nil) rfl trivial rfl
        · try simp only [Bool.and_eq_true, Bool.or_eq_true, Bool.not_eq_true', Bool.and_eq_false_iff, Bool.or_eq_false_iff, Bool.not_eq_false', decide_eq_true_eq, decide_eq_false_iff_not, beq_iff_eq, bne_iff_ne, beq_eq_false_iff_ne, bne_eq_false_iff_eq, Bool.true_and, ne_eq, Decidable.not_not, Int.not_lt, Int.not_le, Nat.not_lt, Nat.not_le, strB_nil, strB_nil', strB_nnil, strB_nnil'] at h5
          refine run_skip ?_
          refine run_endB ?_
          refine run_region (q_move .n (.t rfl) rfl <|
              q_add .n (.t rfl) (.c rfl) (fun _ => by first | omega | assumption | (simp only [List.length_append, List.length_cons, List.length_nil, List.length_replicate, put_len] at * <;> omega)) rfl <|
              q_assign .n (.t rfl) rfl <|
              Lex.nil) ?_
          exact run_again (x1 + 1) ⟨by first | omega | assumption | (simp only [List.length_append, List.length_cons, List.length_nil, List.length_replicate, put_len] at * <;> omega), by first | omega | assumption | (simp only [List.length_append, List.length_cons, List.length_nil, List.length_replicate, put_len] at * <;> omega)⟩ (by first | omega | assumption | (simp only [List.length_append, List.length_cons, List.length_nil, List.length_replicate, put_len] at * <;> omega)) (sub_of [] ⟨rfl, rfl, trivial⟩ trivial rfl)
      · try simp only [Bool.and_eq_true, Bool.or_eq_true, Bool.not_eq_true', Bool.and_eq_false_iff, Bool.or_eq_false_iff, Bool.not_eq_false', decide_eq_true_eq, decide_eq_false_iff_not, beq_iff_eq, bne_iff_ne, beq_eq_false_iff_ne, bne_eq_false_iff_eq, Bool.true_and, ne_eq, Decidable.not_not, Int.not_lt, Int.not_le, Nat.not_lt, Nat.not_le, strB_nil, strB_nil', strB_nnil, strB_nnil'] at h4
        refine run_exit rfl ?_
        exact run_cont hk2 x1 ⟨by first | omega | assumption | (simp only [List.length_append, List.length_cons, List.length_nil, List.length_replicate, put_len] at * <;> omega), by first | omega | assumption | (simp only [List.length_append, List.length_cons, List.length_nil, List.length_replicate, put_len] at * <;> omega), by first | omega | assumption | (simp only [List.length_append, List.length_cons, List.length_nil, List.length_replicate, put_len] at * <;> omega)⟩ (sub_of [] trivial trivial rfl)

/-! ### spec_l26Kind -/
theorem c_spec_l26Kind (kind : Int) : Con Tryd.prog 60 [.int .i64 kind] [] (.bool (m_spec_l26Kind kind)) ([]) := by
  refine con_intro (out := fun r : Bool => ((.bool r : V), ([] : List (Nat × Option O)))) (r := (m_spec_l26Kind kind)) Tryd.func60 rfl Tryd.ntmps60 rfl ?_
  refine run_seq ?_
  refine run_region (q_assign .n (.c rfl) rfl <|
      Lex.nil) ?_
  refine run_seq ?_
  refine run_region (q_move .n (.t rfl) rfl <|
      q_call0 (full := false) .n .f en_36 (.cons (.t rfl) (.cons (.c rfl) (.cons (.c rfl) .nil))) (.cons (.b (.a (.same rfl))) (.cons (.b (.a (.same rfl))) (.cons (.b (.a (.same rfl))) .nil))) (fun hg => c_spec_l00In kind 1 4) rfl (fun h => Bool.noConfusion h) rfl <|
      q_assign .n (.t rfl) rfl <|
      Lex.nil) ?_
  exact run_ret [] (.cons (.t rfl rfl) .nil) rfl trivial rfl

/-! ### spec_l14Airway -/
theorem c_spec_l14Airway (a : Int) : Con Tryd.prog 61 [.int .i64 a] [] (.bool (m_spec_l14Airway a)) ([]) := by
  refine con_intro (out := fun r : Bool => ((.bool r : V), ([] : List (Nat × Option O)))) (r := (m_spec_l14Airway a)) Tryd.func61 rfl Tryd.ntmps61 rfl ?_
  refine run_seq ?_
  refine run_region (q_assign .n (.c rfl) rfl <|
      Lex.nil) ?_
  refine run_seq ?_
  refine run_region (q_move .n (.t rfl) rfl <|
      q_call0 (full := false) .n .f en_36 (.cons (.t rfl) (.cons (.c rfl) (.cons (.c rfl) .nil))) (.cons (.b (.a (.same rfl))) (.cons (.b (.a (.same rfl))) (.cons (.b (.a (.same rfl))) .nil))) (fun hg => c_spec_l00In a 0 23) rfl (fun h => Bool.noConfusion h) rfl <|
      q_assign .n (.t rfl) rfl <|
      Lex.nil) ?_
  exact run_ret [] (.cons (.t rfl rfl) .nil) rfl trivial rfl

/-! ### spec_l26One -/
theorem c_spec_l26One (x_ : gPermit) : Con Tryd.prog 46 [.rp [.str x_.Id, .int .i64 x_.Kind, .int .i64 x_.Airway, .int .i64 x_.From, .int .i64 x_.Until]] [] (.bool (m_spec_l26One x_)) ([]) := by
  refine con_intro (out := fun r : Bool => ((.bool r : V), ([] : List (Nat × Option O)))) (r := (m_spec_l26One x_)) Tryd.func46 rfl Tryd.ntmps46 rfl ?_
  refine run_seq ?_
  refine run_region (q_assign .n (.c rfl) rfl <|
      Lex.nil) ?_
  refine run_seq ?_
  refine run_draw fmo (q_move .n (.t rfl) rfl <|
      q_nilc_ro .n (.t rfl) rfl <|
      q_fld_ro .n (.t rfl) fo_39_0 rfl <|
      q_ld1_ro .n (.t rfl) rfl ic_9 rfl <|
      q_call0 (full := false) .n .f en_37 (.cons (.t rfl) .nil) (.cons (.b (.a (.same rfl))) .nil) (fun hg => c_spec_l01Name x_.Id) rfl (fun h => Bool.noConfusion h) rfl <|
      q_move .n (.t rfl) rfl <|
      q_move (.t rfl rfl) (.t rfl) rfl <|
      q_nilc_ro (.t rfl rfl) (.u rfl id) rfl <|
      q_fld_ro (.t rfl rfl) (.u rfl id) fo_39_1 rfl <|
      q_ld1_ro (.t rfl rfl) (.u rfl id) rfl ic_2 rfl <|
      q_call0 (full := false) (.t rfl rfl) .f en_60 (.cons (.u rfl id) .nil) (.cons (.b (.a (.same rfl))) .nil) (fun hg => c_spec_l26Kind x_.Kind) rfl (fun h => Bool.noConfusion h) rfl <|
      q_and .n (.t rfl) (.u rfl id) rfl <|
      q_move .n (.t rfl) rfl <|
      q_move (.t rfl rfl) (.t rfl) rfl <|
      q_nilc_ro (.t rfl rfl) (.u rfl id) rfl <|
      q_fld_ro (.t rfl rfl) (.u rfl id) fo_39_2 rfl <|
      q_ld1_ro (.t rfl rfl) (.u rfl id) rfl ic_2 rfl <|
      q_call0 (full := false) (.t rfl rfl) .f en_61 (.cons (.u rfl id) .nil) (.cons (.b (.a (.same rfl))) .nil) (fun hg => c_spec_l14Airway x_.Airway) rfl (fun h => Bool.noConfusion h) rfl <|
      q_and .n (.t rfl) (.u rfl id) rfl <|
      q_move .n (.t rfl) rfl <|
      q_move (.t rfl rfl) (.t rfl) rfl <|
      q_nilc_ro (.t rfl rfl) (.u rfl id) rfl <|
      q_fld_ro (.t rfl rfl) (.u rfl id) fo_39_3 rfl <|
      q_ld1_ro (.t rfl rfl) (.u rfl id) rfl ic_2 rfl <|
      q_call0 (full := false) (.t rfl rfl) .f en_36 (.cons (.u rfl id) (.cons (.c rfl) (.cons (.c rfl) .nil))) (.cons (.b (.a (.same rfl))) (.cons (.b (.a (.same rfl))) (.cons (.b (.a (.same rfl))) .nil))) (fun hg => c_spec_l00In x_.From 0 99999) rfl (fun h => Bool.noConfusion h) rfl <|
      q_and .n (.t rfl) (.u rfl id) rfl <|
      q_move .n (.t rfl) rfl <|
      q_move (.t rfl rfl) (.t rfl) rfl <|
      q_nilc_ro (.t rfl rfl) (.u rfl id) rfl <|
      q_fld_ro (.t rfl rfl) (.u rfl id) fo_39_4 rfl <|
      q_ld1_ro (.t rfl rfl) (.u rfl id) rfl ic_2 rfl <|
      q_move (.t rfl rfl) (.t rfl) rfl <|
      q_nilc_ro (.t rfl rfl) (.u rfl id) rfl <|
      q_fld_ro (.t rfl rfl) (.u rfl id) fo_39_3 rfl <|
      q_ld1_ro (.t rfl rfl) (.u rfl id) rfl ic_2 rfl <|
      q_int (.t rfl rfl) (.u rfl id) (.c rfl) rfl rfl <|
      q_call0 (full := false) (.t rfl rfl) .f en_36 (.cons (.u rfl id) (.cons (.u rfl id) (.cons (.c rfl) .nil))) (.cons (.b (.a (.same rfl))) (.cons (.b (.a (.same rfl))) (.cons (.b (.a (.same rfl))) .nil))) (fun hg => c_spec_l00In x_.Until (IntKind.wrap .i64 (x_.From + 1)) 100000) rfl (fun h => Bool.noConfusion h) rfl <|
      q_and .n (.t rfl) (.u rfl id) rfl <|
      q_assign .n (.t rfl) rfl <|
      Lex.nil) (by kernel_rfl) ?_
  exact run_ret [] (.cons (.t rfl rfl) .nil) rfl trivial rfl

/-! ### spec_l26Read -/
theorem c_spec_l26Read (s_ : List UInt8) (hp1 : s_.length ≤ 1048576) : Con Tryd.prog 28 [.str s_] [] (.tup [.st [.str (m_spec_l26Read s_).1.Id, .int .i64 (m_spec_l26Read s_).1.Kind, .int .i64 (m_spec_l26Read s_).1.Airway, .int .i64 (m_spec_l26Read s_).1.From, .int .i64 (m_spec_l26Read s_).1.Until], .bool (m_spec_l26Read s_).2]) ([]) := by
  refine con_intro (out := fun r : gPermit × Bool => ((.tup [.st [.str r.1.Id, .int .i64 r.1.Kind, .int .i64 r.1.Airway, .int .i64 r.1.From, .int .i64 r.1.Until], .bool r.2] : V), ([] : List (Nat × Option O)))) (r := (m_spec_l26Read s_)) Tryd.func28 rfl Tryd.ntmps28 rfl ?_
  refine run_seq ?_
  refine run_region (q_alloc (l := 200) .n rfl zv_39 rfl rfl <|
      q_assign .n (.c rfl) rfl <|
      Lex.nil) ?_
  refine run_seq ?_
  refine run_region (q_move .n (.t rfl) rfl <|
      q_callM (full := false) [] [(100, 201)] .n rfl .f en_19 (.cons (.t rfl) (.cons (.c rfl) .nil)) (.cons (.b (.a (.same rfl))) (.cons (.b (.a (.same rfl))) .nil)) (c_spec_l01Split s_ 32 (by first | omega | assumption | (simp only [List.length_append, List.length_cons, List.length_nil, List.length_replicate, put_len] at * <;> omega) | (exact split32_len hp1 (by omega))) (by first | omega | assumption | (simp only [List.length_append, List.length_cons, List.length_nil, List.length_replicate, put_len] at * <;> omega) | (exact split32_len hp1 (by omega)))) trivial rfl rfl (fun h => Bool.noConfusion h) (fun h => Bool.noConfusion h) rfl <|
      q_assign .n (.t rfl) rfl <|
      Lex.nil) ?_
  refine run_seq ?_
  refine run_seq ?_
  refine run_region (q_move .n (.t rfl) rfl <|
      q_len .n (.t rfl) rfl rfl ss_43 rfl <|
      q_int .n (.t rfl) (.c rfl) rfl rfl <|
      Lex.nil) ?_
  refine run_cond (.t rfl) rfl (fun h1 => ?_) (fun h1 => ?_)
  · try simp only [Bool.and_eq_true, Bool.or_eq_true, Bool.not_eq_true', Bool.and_eq_false_iff, Bool.or_eq_false_iff, Bool.not_eq_false', decide_eq_true_eq, decide_eq_false_iff_not, beq_iff_eq, bne_iff_ne, beq_eq_false_iff_ne, bne_eq_false_iff_eq, Bool.true_and, ne_eq, Decidable.not_not, Int.not_lt, Int.not_le, Nat.not_lt, Nat.not_le, strB_nil, strB_nil', strB_nnil, strB_nnil'] at h1
    refine run_seq ?_
    refine run_region (q_build (us := [.str ([] : List UInt8), .int .i64 0, .int .i64 0, .int .i64 0, .int .i64 0]) .n .nil zv_39 pl_39 rfl rfl rfl <|
        q_st_boxm [.str ([] : List UInt8), .int .i64 0, .int .i64 0, .int .i64 0, .int .i64 0] .n rfl (.t rfl) (.t rfl) rfl ts_39 rfl rfl <|
        q_assign .n (.c rfl) rfl <|
        Lex.nil) ?_
    exact run_ret [] (.cons (.cN rfl rfl ag_39 rfl rfl) (.cons (.t rfl rfl) .nil)) (by first | rfl | (simp only [put_len]; rfl)) trivial rfl
  · try simp only [Bool.and_eq_true, Bool.or_eq_true, Bool.not_eq_true', Bool.and_eq_false_iff, Bool.or_eq_false_iff, Bool.not_eq_false', decide_eq_true_eq, decide_eq_false_iff_not, beq_iff_eq, bne_iff_ne, beq_eq_false_iff_ne, bne_eq_false_iff_eq, Bool.true_and, ne_eq, Decidable.not_not, Int.not_lt, Int.not_le, Nat.not_lt, Nat.not_le, strB_nil, strB_nil', strB_nnil, strB_nnil'] at h1
    refine run_skip ?_
    refine run_seq ?_
    refine run_region (q_move .n (.t rfl) rfl <|
        q_idx_ow .n (.t rfl) (.c rfl) sl_43 (fun _ => by first | omega | assumption | (simp only [List.length_append, List.length_cons, List.length_nil, List.length_replicate, put_len] at * <;> omega) | (exact split32_len hp1 (by omega))) rfl <|
        q_ld1_row .n (.t rfl) rfl (fun _ => by first | omega | assumption | (simp only [List.length_append, List.length_cons, List.length_nil, List.length_replicate, put_len] at * <;> omega) | (exact split32_len hp1 (by omega))) rfl rfl rfl ic_9 rfl <|
        q_build (us := [.str (at' (m_spec_l01Split s_ 32) 0), .int .i64 0, .int .i64 0, .int .i64 0, .int .i64 0]) .n (.cons (.t rfl) .nil) zv_39 pl_39 rfl rfl rfl <|
        q_alloc (l := 202) .n rfl zv_39 rfl rfl <|
        q_st_boxm [.str (at' (m_spec_l01Split s_ 32) 0), .int .i64 0, .int .i64 0, .int .i64 0, .int .i64 0] .n rfl (.t rfl) (.t rfl) rfl ts_39 rfl rfl <|
        Lex.nil) ?_
    refine run_seq ?_
    refine run_seq ?_
    refine run_region (q_assign .n (.c rfl) rfl <|
        Lex.nil) ?_
    refine run_block ?_
    refine run_LOOP (m_spec_l26Read_b1 s_) _ _ _ rfl (fun (x1 : Int × Int) => 1 ≤ x1.2 ∧ 1 ≤ x1.2 ∧ x1.2 ≤ 5 ∧ 0 ≤ x1.1 ∧ x1.1 ≤ 4) (fun x1 => 1 ≤ x1.2 ∧ 1 ≤ x1.2 ∧ x1.2 ≤ 5 ∧ 0 ≤ x1.1 ∧ x1.1 ≤ 4) (fun x1 => (5 - x1.2 : Int).toNat) (fun x1 => ⟨[(2, some (true, .op 200 0 0 0)), (4, some (true, .os 201 (m_spec_l01Split s_ 32).length)), (5, some (true, .op 202 0 0 0)), (6, some (true, .int .i64 x1.2))], [(200, some (.box 39 [.str ([] : List UInt8), .int .i64 0, .int .i64 0, .int .i64 0, .int .i64 0])), (201, some (.row 9 1 ((m_spec_l01Split s_ 32).map V.str))), (202, some (.box 39 [.str (at' (m_spec_l01Split s_ 32) 0), .int .i64 x1.1, .int .i64 0, .int .i64 0, .int .i64 0]))]⟩) (fun x1 => ⟨[(2, some (true, .op 200 0 0 0)), (4, some (true, .os 201 (m_spec_l01Split s_ 32).length)), (5, some (true, .op 202 0 0 0))], [(200, some (.box 39 [.str ([] : List UInt8), .int .i64 0, .int .i64 0, .int .i64 0, .int .i64 0])), (201, some (.row 9 1 ((m_spec_l01Split s_ 32).map V.str))), (202, some (.box 39 [.str (at' (m_spec_l01Split s_ 32) 0), .int .i64 x1.1, .int .i64 0, .int .i64 0, .int .i64 0]))]⟩) ⟨by first | omega | assumption | (simp only [List.length_append, List.length_cons, List.length_nil, List.length_replicate, put_len] at * <;> omega) | (exact split32_len hp1 (by omega)), by first | omega | assumption | (simp only [List.length_append, List.length_cons, List.length_nil, List.length_replicate, put_len] at * <;> omega) | (exact split32_len hp1 (by omega)), by first | omega | assumption | (simp only [List.length_append, List.length_cons, List.length_nil, List.length_replicate, put_len] at * <;> omega) | (exact split32_len hp1 (by omega))⟩ (by first | omega | assumption | (simp only [List.length_append, List.length_cons, List.length_nil, List.length_replicate, put_len] at * <;> omega) | (exact split32_len hp1 (by omega))) (sub_of [] ⟨rfl, rfl, rfl, rfl, trivial⟩ ⟨rfl, rfl, rfl, trivial⟩ rfl) ?_ ?_
    · intro x1 i6
      obtain ⟨e9, e10, e11⟩ := i6
      try dsimp only at *
      refine run_seq ?_
      refine run_region (q_move .n (.t rfl) rfl <|
          q_idx_ow .n (.t rfl) (.c rfl) sl_43 (fun _ => by first | omega | assumption | (simp only [List.length_append, List.length_cons, List.length_nil, List.length_replicate, put_len] at * <;> omega) | (exact split32_len hp1 (by omega))) rfl <|
          q_ld1_row .n (.t rfl) rfl (fun _ => by first | omega | assumption | (simp only [List.length_append, List.length_cons, List.length_nil, List.length_replicate, put_len] at * <;> omega) | (exact split32_len hp1 (by omega))) rfl rfl rfl ic_9 rfl <|
          q_callM (full := false) [] [(100, 203)] .n rfl .f en_20 (.cons (.t rfl) .nil) (.cons (.b (.a (.same rfl))) .nil) (c_spec_ReadList (at' (m_spec_l01Split s_ 32) 2) (by first | omega | assumption | (simp only [List.length_append, List.length_cons, List.length_nil, List.length_replicate, put_len] at * <;> omega) | (exact split32_len hp1 (by omega)))) trivial rfl rfl (fun h => Bool.noConfusion h) (fun h => Bool.noConfusion h) rfl <|
          q_move .n (.t rfl) rfl <|
          q_ext .n (.t rfl) rfl rfl rfl <|
          q_ext .n (.t rfl) rfl rfl rfl <|
          q_assign .n (.t rfl) rfl <|
          q_assign .n (.t rfl) rfl <|
          Lex.nil) ?_
      refine run_seq ?_
      refine run_seq ?_
      refine run_region (q_move .n (.t rfl) rfl <|
          q_not .n (.t rfl) rfl <|
          q_move .n (.t rfl) rfl <|
          q_move (.f rfl rfl) (.t rfl) rfl <|
          q_len (.f rfl rfl) (.u rfl id) rfl rfl ss_45 rfl <|
          q_int (.f rfl rfl) (.u rfl id) (.c rfl) rfl rfl <|
          q_or .n (.t rfl) (.u rfl id) rfl <|
          Lex.nil) ?_
      refine run_cond (.t rfl) rfl (fun h7 => ?_) (fun h7 => ?_)
      · try simp only [Bool.and_eq_true, Bool.or_eq_true, Bool.not_eq_true', Bool.and_eq_false_iff, Bool.or_eq_false_iff, Bool.not_eq_false', decide_eq_true_eq, decide_eq_false_iff_not, beq_iff_eq, bne_iff_ne, beq_eq_false_iff_ne, bne_eq_false_iff_eq, Bool.true_and, ne_eq, Decidable.not_not, Int.not_lt, Int.not_le, Nat.not_lt, Nat.not_le, strB_nil, strB_nil', strB_nnil, strB_nnil'] at h7
        refine run_seq ?_
        refine run_region (q_build (us := [.str ([] : List UInt8), .int .i64 0, .int .i64 0, .int .i64 0, .int .i64 0]) .n .nil zv_39 pl_39 rfl rfl rfl <|
            q_st_boxm [.str ([] : List UInt8), .int .i64 0, .int .i64 0, .int .i64 0, .int .i64 0] .n rfl (.t rfl) (.t rfl) rfl ts_39 rfl rfl <|
            q_assign .n (.c rfl) rfl <|
            Lex.nil) ?_
        exact run_ret [] (.cons (.cN rfl rfl ag_39 rfl rfl) (.cons (.t rfl rfl) .nil)) (by first | rfl | (simp only [put_len]; rfl)) trivial rfl
      · try simp only [Bool.and_eq_true, Bool.or_eq_true, Bool.not_eq_true', Bool.and_eq_false_iff, Bool.or_eq_false_iff, Bool.not_eq_false', decide_eq_true_eq, decide_eq_false_iff_not, beq_iff_eq, bne_iff_ne, beq_eq_false_iff_ne, bne_eq_false_iff_eq, Bool.true_and, ne_eq, Decidable.not_not, Int.not_lt, Int.not_le, Nat.not_lt, Nat.not_le, strB_nil, strB_nil', strB_nnil, strB_nnil'] at h7
        refine run_skip ?_
        refine run_seq ?_
        refine run_region (q_move .n (.t rfl) rfl <|
            q_idx_ow .n (.t rfl) (.c rfl) sl_45 (fun _ => by first | omega | assumption | (simp only [List.length_append, List.length_cons, List.length_nil, List.length_replicate, put_len] at * <;> omega) | (exact split32_len hp1 (by omega))) rfl <|
            q_ld1_row .n (.t rfl) rfl (fun _ => by first | omega | assumption | (simp only [List.length_append, List.length_cons, List.length_nil, List.length_replicate, put_len] at * <;> omega) | (exact split32_len hp1 (by omega))) rfl rfl rfl ic_2 rfl <|
            q_fld_ow .n (.t rfl) fo_39_2 rfl <|
            q_st_boxm [.str (at' (m_spec_l01Split s_ 32) 0), .int .i64 x1.1, .int .i64 (at' (m_spec_ReadList (at' (m_spec_l01Split s_ 32) 2)).1 0), .int .i64 0, .int .i64 0] .n rfl (.t rfl) (.t rfl) rfl ts_2 rfl rfl <|
            Lex.nil) ?_
        refine run_seq ?_
        refine run_region (q_move .n (.t rfl) rfl <|
            q_idx_ow .n (.t rfl) (.c rfl) sl_45 (fun _ => by first | omega | assumption | (simp only [List.length_append, List.length_cons, List.length_nil, List.length_replicate, put_len] at * <;> omega) | (exact split32_len hp1 (by omega))) rfl <|
            q_ld1_row .n (.t rfl) rfl (fun _ => by first | omega | assumption | (simp only [List.length_append, List.length_cons, List.length_nil, List.length_replicate, put_len] at * <;> omega) | (exact split32_len hp1 (by omega))) rfl rfl rfl ic_2 rfl <|
            q_fld_ow .n (.t rfl) fo_39_3 rfl <|
            q_st_boxm [.str (at' (m_spec_l01Split s_ 32) 0), .int .i64 x1.1, .int .i64 (at' (m_spec_ReadList (at' (m_spec_l01Split s_ 32) 2)).1 0), .int .i64 (at' (m_spec_ReadList (at' (m_spec_l01Split s_ 32) 2)).1 1), .int .i64 0] .n rfl (.t rfl) (.t rfl) rfl ts_2 rfl rfl <|
            Lex.nil) ?_
        refine run_seq ?_
        refine run_region (q_move .n (.t rfl) rfl <|
            q_idx_ow .n (.t rfl) (.c rfl) sl_45 (fun _ => by first | omega | assumption | (simp only [List.length_append, List.length_cons, List.length_nil, List.length_replicate, put_len] at * <;> omega) | (exact split32_len hp1 (by omega))) rfl <|
            q_ld1_row .n (.t rfl) rfl (fun _ => by first | omega | assumption | (simp only [List.length_append, List.length_cons, List.length_nil, List.length_replicate, put_len] at * <;> omega) | (exact split32_len hp1 (by omega))) rfl rfl rfl ic_2 rfl <|
            q_fld_ow .n (.t rfl) fo_39_4 rfl <|
            q_st_boxm [.str (at' (m_spec_l01Split s_ 32) 0), .int .i64 x1.1, .int .i64 (at' (m_spec_ReadList (at' (m_spec_l01Split s_ 32) 2)).1 0), .int .i64 (at' (m_spec_ReadList (at' (m_spec_l01Split s_ 32) 2)).1 1), .int .i64 (at' (m_spec_ReadList (at' (m_spec_l01Split s_ 32) 2)).1 2)] .n rfl (.t rfl) (.t rfl) rfl ts_2 rfl rfl <|
            Lex.nil) ?_
        refine run_seq ?_
        refine run_seq ?_
        refine run_region (q_call0 (full := true) .n .f en_46 (.cons (.t rfl) .nil) (.cons (.b (.ptr rfl rfl (.inr rfl) rfl rfl (.cons (.same rfl) (.cons (.same rfl) (.cons (.same rfl) (.cons (.same rfl) (.cons (.same rfl) .nil))))))) .nil) (fun hg => c_spec_l26One (gPermit.mk (at' (m_spec_l01Split s_ 32) 0) x1.1 (at' (m_spec_ReadList (at' (m_spec_l01Split s_ 32) 2)).1 0) (at' (m_spec_ReadList (at' (m_spec_l01Split s_ 32) 2)).1 1) (at' (m_spec_ReadList (at' (m_spec_l01Split s_ 32) 2)).1 2))) rfl (fun _ => rfl) rfl <|
            q_not .n (.t rfl) rfl <|
            Lex.nil) ?_
        refine run_cond (.t rfl) rfl (fun h8 => ?_) (fun h8 => ?_)
        · try simp only [Bool.and_eq_true, Bool.or_eq_true, Bool.not_eq_true', Bool.and_eq_false_iff, Bool.or_eq_false_iff, Bool.not_eq_false', decide_eq_true_eq, decide_eq_false_iff_not, beq_iff_eq, bne_iff_ne, beq_eq_false_iff_ne, bne_eq_false_iff_eq, Bool.true_and, ne_eq, Decidable.not_not, Int.not_lt, Int.not_le, Nat.not_lt, Nat.not_le, strB_nil, strB_nil', strB_nnil, strB_nnil'] at h8
          try have hf0h8 := one_imp h8
          try have hf1h8 := one_imp h8.1
          try have hf2h8 := one_imp h8.2
          try have hf3h8 := one_imp h8.1.1
          try have hf4h8 := one_imp h8.1.2
          try have hf5h8 := one_imp h8.2.1
          try have hf6h8 := one_imp h8.2.2
          refine run_seq ?_
          refine run_region (q_build (us := [.str ([] : List UInt8), .int .i64 0, .int .i64 0, .int .i64 0, .int .i64 0]) .n .nil zv_39 pl_39 rfl rfl rfl <|
              q_st_boxm [.str ([] : List UInt8), .int .i64 0, .int .i64 0, .int .i64 0, .int .i64 0] .n rfl (.t rfl) (.t rfl) rfl ts_39 rfl rfl <|
              q_assign .n (.c rfl) rfl <|
              Lex.nil) ?_
          exact run_ret [] (.cons (.cN rfl rfl ag_39 rfl rfl) (.cons (.t rfl rfl) .nil)) (by first | rfl | (simp only [put_len]; rfl)) trivial rfl
        · try simp only [Bool.and_eq_true, Bool.or_eq_true, Bool.not_eq_true', Bool.and_eq_false_iff, Bool.or_eq_false_iff, Bool.not_eq_false', decide_eq_true_eq, decide_eq_false_iff_not, beq_iff_eq, bne_iff_ne, beq_eq_false_iff_ne, bne_eq_false_iff_eq, Bool.true_and, ne_eq, Decidable.not_not, Int.not_lt, Int.not_le, Nat.not_lt, Nat.not_le, strB_nil, strB_nil', strB_nnil, strB_nnil'] at h8
          try have hf0h8 := one_imp h8
          try have hf1h8 := one_imp h8.1
          try have hf2h8 := one_imp h8.2
          try have hf3h8 := one_imp h8.1.1
          try have hf4h8 := one_imp h8.1.2
          try have hf5h8 := one_imp h8.2.1
          try have hf6h8 := one_imp h8.2.2
          refine run_skip ?_
          refine run_seq ?_
          refine run_region (q_ldN_ow .n (.t rfl) rfl (.inr rfl) ag_39 (fun _ => rfl) rfl rfl <|
              q_st_boxm [.str (at' (m_spec_l01Split s_ 32) 0), .int .i64 x1.1, .int .i64 (at' (m_spec_ReadList (at' (m_spec_l01Split s_ 32) 2)).1 0), .int .i64 (at' (m_spec_ReadList (at' (m_spec_l01Split s_ 32) 2)).1 1), .int .i64 (at' (m_spec_ReadList (at' (m_spec_l01Split s_ 32) 2)).1 2)] .n rfl (.t rfl) (.t rfl) rfl ts_39 rfl rfl <|
              q_assign .n (.c rfl) rfl <|
              Lex.nil) ?_
          exact run_ret [] (.cons (.cN rfl rfl ag_39 rfl rfl) (.cons (.t rfl rfl) .nil)) (by first | rfl | (simp only [put_len]; rfl)) trivial rfl
    · intro rec1 k1 hk2 x1 i3
      obtain ⟨e12, e13, e14⟩ := i3
      try dsimp only at *
      refine run_seq ?_
      refine run_seq ?_
      refine run_region (q_move .n (.t rfl) rfl <|
          q_int .n (.t rfl) (.c rfl) rfl rfl <|
          Lex.nil) ?_
      refine run_cond (.t rfl) rfl (fun h4 => ?_) (fun h4 => ?_)
      · try simp only [Bool.and_eq_true, Bool.or_eq_true, Bool.not_eq_true', Bool.and_eq_false_iff, Bool.or_eq_false_iff, Bool.not_eq_false', decide_eq_true_eq, decide_eq_false_iff_not, beq_iff_eq, bne_iff_ne, beq_eq_false_iff_ne, bne_eq_false_iff_eq, Bool.true_and, ne_eq, Decidable.not_not, Int.not_lt, Int.not_le, Nat.not_lt, Nat.not_le, strB_nil, strB_nil', strB_nnil, strB_nnil'] at h4
        refine run_skip ?_
        refine run_seq ?_
        refine run_block ?_
        refine run_seq ?_
        refine run_draw fmo (q_move .n (.t rfl) rfl <|
            q_idx_ow .n (.t rfl) (.c rfl) sl_43 (fun _ => by first | omega | assumption | (simp only [List.length_append, List.length_cons, List.length_nil, List.length_replicate, put_len] at * <;> omega) | (exact split32_len hp1 (by omega))) rfl <|
            q_ld1_row .n (.t rfl) rfl (fun _ => by first | omega | assumption | (simp only [List.length_append, List.length_cons, List.length_nil, List.length_replicate, put_len] at * <;> omega) | (exact split32_len hp1 (by omega))) rfl rfl rfl ic_9 rfl <|
            q_move .n (.t rfl) rfl <|
            q_call0 (full := false) .n .f en_45 (.cons (.t rfl) .nil) (.cons (.b (.a (.same rfl))) .nil) (fun hg => c_spec_l26Name x1.2) rfl (fun h => Bool.noConfusion h) rfl <|
            q_strcmp .n (.t rfl) (.t rfl) rfl rfl <|
            Lex.nil) (by kernel_rfl) ?_
        refine run_cond (.t rfl) rfl (fun h5 => ?_) (fun h5 => ?_)
        · try simp only [Bool.and_eq_true, Bool.or_eq_true, Bool.not_eq_true', Bool.and_eq_false_iff, Bool.or_eq_false_iff, Bool.not_eq_false', decide_eq_true_eq, decide_eq_false_iff_not, beq_iff_eq, bne_iff_ne, beq_eq_false_iff_ne, bne_eq_false_iff_eq, Bool.true_and, ne_eq, Decidable.not_not, Int.not_lt, Int.not_le, Nat.not_lt, Nat.not_le, strB_nil, strB_nil', strB_nnil, strB_nnil'] at h5
          refine run_region (q_move .n (.t rfl) rfl <|
              q_fld_ow .n (.t rfl) fo_39_1 rfl <|
              q_st_boxm [.str (at' (m_spec_l01Split s_ 32) 0), .int .i64 x1.2, .int .i64 0, .int .i64 0, .int .i64 0] .n rfl (.t rfl) (.t rfl) rfl ts_2 rfl rfl <|
              Lex.nil) ?_
          refine run_endB ?_
          refine run_region (q_move .n (.t rfl) rfl <|
              q_add .n (.t rfl) (.c rfl) (fun _ => by first | omega | assumption | (simp only [List.length_append, List.length_cons, List.length_nil, List.length_replicate, put_len] at * <;> omega) | (exact split32_len hp1 (by omega))) rfl <|
              q_assign .n (.t rfl) rfl <|
              Lex.nil) ?_
          exact run_again (x1.2, x1.2 + 1) ⟨by first | omega | assumption | (simp only [List.length_append, List.length_cons, List.length_nil, List.length_replicate, put_len] at * <;> omega) | (exact split32_len hp1 (by omega)), by first | omega | assumption | (simp only [List.length_append, List.length_cons, List.length_nil, List.length_replicate, put_len] at * <;> omega) | (exact split32_len hp1 (by omega)), by first | omega | assumption | (simp only [List.length_append, List.length_cons, List.length_nil, List.length_replicate, put_len] at * <;> omega) | (exact split32_len hp1 (by omega))⟩ (by first | omega | assumption | (simp only [List.length_append, List.length_cons, List.length_nil, List.length_replicate, put_len] at * <;> omega) | (exact split32_len hp1 (by omega))) (sub_of [] ⟨rfl, rfl, rfl, rfl, trivial⟩ ⟨rfl, rfl, rfl, trivial⟩ rfl)
        · try simp only [Bool.and_eq_true, Bool.or_eq_true, Bool.not_eq_true', Bool.and_eq_false_iff, Bool.or_eq_false_iff, Bool.not_eq_false', decide_eq_true_eq, decide_eq_false_iff_not, beq_iff_eq, bne_iff_ne, beq_eq_false_iff_ne, bne_eq_false_iff_eq, Bool.true_and, ne_eq, Decidable.not_not, Int.not_lt, Int.not_le, Nat.not_lt, Nat.not_le, strB_nil, strB_nil', strB_nnil, strB_nnil'] at h5
          refine run_skip ?_
          refine run_endB ?_
          refine run_region (q_move .n (.t rfl) rfl <|
              q_add .n (.t rfl) (.c rfl) (fun _ => by first | omega | assumption | (simp only [List.length_append, List.length_cons, List.length_nil, List.length_replicate, put_len] at * <;> omega) | (exact split32_len hp1 (by omega))) rfl <|
              q_assign .n (.t rfl) rfl <|
              Lex.nil) ?_
          exact run_again (x1.1, x1.2 + 1) ⟨by first | omega | assumption | (simp only [List.length_append, List.length_cons, List.length_nil, List.length_replicate, put_len] at * <;> omega) | (exact split32_len hp1 (by omega)), by first | omega | assumption | (simp only [List.length_append, List.length_cons, List.length_nil, List.length_replicate, put_len] at * <;> omega) | (exact split32_len hp1 (by omega)), by first | omega | assumption | (simp only [List.length_append, List.length_cons, List.length_nil, List.length_replicate, put_len] at * <;> omega) | (exact split32_len hp1 (by omega))⟩ (by first | omega | assumption | (simp only [List.length_append, List.length_cons, List.length_nil, List.length_replicate, put_len] at * <;> omega) | (exact split32_len hp1 (by omega))) (sub_of [] ⟨rfl, rfl, rfl, rfl, trivial⟩ ⟨rfl, rfl, rfl, trivial⟩ rfl)
      · try simp only [Bool.and_eq_true, Bool.or_eq_true, Bool.not_eq_true', Bool.and_eq_false_iff, Bool.or_eq_false_iff, Bool.not_eq_false', decide_eq_true_eq, decide_eq_false_iff_not, beq_iff_eq, bne_iff_ne, beq_eq_false_iff_ne, bne_eq_false_iff_eq, Bool.true_and, ne_eq, Decidable.not_not, Int.not_lt, Int.not_le, Nat.not_lt, Nat.not_le, strB_nil, strB_nil', strB_nnil, strB_nnil'] at h4
        refine run_exit rfl ?_
        exact run_cont hk2 (x1.1, x1.2) ⟨by first | omega | assumption | (simp only [List.length_append, List.length_cons, List.length_nil, List.length_replicate, put_len] at * <;> omega) | (exact split32_len hp1 (by omega)), by first | omega | assumption | (simp only [List.length_append, List.length_cons, List.length_nil, List.length_replicate, put_len] at * <;> omega) | (exact split32_len hp1 (by omega)), by first | omega | assumption | (simp only [List.length_append, List.length_cons, List.length_nil, List.length_replicate, put_len] at * <;> omega) | (exact split32_len hp1 (by omega))⟩ (sub_of [] ⟨rfl, rfl, rfl, trivial⟩ ⟨rfl, rfl, rfl, trivial⟩ rfl)

/-! ### spec_ReadPermit -/
theorem c_spec_ReadPermit (s_ : List UInt8) (hp1 : s_.length ≤ 1048576) : Con Tryd.prog 16 [.str s_] [] (.tup [.st [.str (m_spec_ReadPermit s_).1.Id, .int .i64 (m_spec_ReadPermit s_).1.Kind, .int .i64 (m_spec_ReadPermit s_).1.Airway, .int .i64 (m_spec_ReadPermit s_).1.From, .int .i64 (m_spec_ReadPermit s_).1.Until], .bool (m_spec_ReadPermit s_).2]) ([]) := by
  refine con_intro (out := fun r : gPermit × Bool => ((.tup [.st [.str r.1.Id, .int .i64 r.1.Kind, .int .i64 r.1.Airway, .int .i64 r.1.From, .int .i64 r.1.Until], .bool r.2] : V), ([] : List (Nat × Option O)))) (r := (m_spec_ReadPermit s_)) Tryd.func16 rfl Tryd.ntmps16 rfl ?_
  refine run_seq ?_
  refine run_region (q_alloc (l := 200) .n rfl zv_39 rfl rfl <|
      q_assign .n (.c rfl) rfl <|
      Lex.nil) ?_
  refine run_seq ?_
  refine run_region (q_move .n (.t rfl) rfl <|
      q_call0 (full := false) .n .f en_28 (.cons (.t rfl) .nil) (.cons (.b (.a (.same rfl))) .nil) (fun hg => c_spec_l26Read s_ (by first | omega | assumption | (simp only [List.length_append, List.length_cons, List.length_nil, List.length_replicate, put_len] at * <;> omega))) rfl (fun h => Bool.noConfusion h) rfl <|
      q_ext .n (.t rfl) rfl rfl rfl <|
      q_ext .n (.t rfl) rfl rfl rfl <|
      q_st_boxm [.str (m_spec_l26Read s_).1.Id, .int .i64 (m_spec_l26Read s_).1.Kind, .int .i64 (m_spec_l26Read s_).1.Airway, .int .i64 (m_spec_l26Read s_).1.From, .int .i64 (m_spec_l26Read s_).1.Until] .n rfl (.t rfl) (.t rfl) rfl ts_39 rfl rfl <|
      q_assign .n (.t rfl) rfl <|
      Lex.nil) ?_
  exact run_ret [] (.cons (.cN rfl rfl ag_39 rfl rfl) (.cons (.t rfl rfl) .nil)) (by first | rfl | (simp only [put_len]; rfl)) trivial rfl

/-! ### strings_Split -/


/-! ### impl_least -/
theorem c_impl_least (low : Int) (high : Int) (has : Int → Bool) (F_has : FuncId) (C_has : List V) (he_has : entB Tryd.prog F_has = true) (hr_has : C_has.all V.ro = true) (Q_has : Int → Prop) (hc_has : ∀ (a0 : Int), Q_has a0 → Con Tryd.prog F_has ([.int .i64 a0] ++ C_has) [] (.bool (has a0)) []) (hp1 : 0 ≤ low ∧ low ≤ high + 1 ∧ high ≤ 1000) (hp2 : ∀ x, low ≤ x → x ≤ high → Q_has x) : Con Tryd.prog 30 [.int .i64 low, .int .i64 high, .clo F_has C_has] [] (.tup [.int .i64 (m_impl_least low high has).1, .bool (m_impl_least low high has).2]) ([]) := by
  refine con_intro (out := fun r : Int × Bool => ((.tup [.int .i64 r.1, .bool r.2] : V), ([] : List (Nat × Option O)))) (r := (m_impl_least low high has)) Tryd.func30 rfl Tryd.ntmps30 rfl ?_
  refine run_seq ?_
  refine run_region (q_assign .n (.c rfl) rfl <|
      q_assign .n (.c rfl) rfl <|
      Lex.nil) ?_
  refine run_seq ?_
  refine run_seq ?_
  refine run_region (q_move .n (.t rfl) rfl <|
      q_assign .n (.t rfl) rfl <|
      Lex.nil) ?_
  refine run_block ?_
  refine run_LOOP (m_impl_least_b1 low high has) _ _ _ rfl (fun (x1 : Int) => low ≤ x1 ∧ low ≤ x1 ∧ x1 ≤ high + 1) (fun x1 => low ≤ x1 ∧ low ≤ x1 ∧ x1 ≤ high + 1) (fun x1 => (high + 1 - x1 : Int).toNat) (fun x1 => ⟨[(1, some (true, .int .i64 high)), (2, some (true, .clo F_has C_has)), (8, some (true, .int .i64 x1))], []⟩) (fun x1 => ⟨[], []⟩) ⟨by first | omega | assumption | (simp only [List.length_append, List.length_cons, List.length_nil, List.length_replicate, put_len] at * <;> omega), by first | omega | assumption | (simp only [List.length_append, List.length_cons, List.length_nil, List.length_replicate, put_len] at * <;> omega)⟩ (by first | omega | assumption | (simp only [List.length_append, List.length_cons, List.length_nil, List.length_replicate, put_len] at * <;> omega)) (sub_of [] ⟨rfl, clo_ren hr_has rfl, rfl, trivial⟩ trivial rfl) ?_ ?_
  · intro x1 i5
    obtain ⟨e6, e7⟩ := i5
    try dsimp only at *
    refine run_seq ?_
    refine run_region (q_assign .n (.c rfl) rfl <|
        q_assign .n (.c rfl) rfl <|
        Lex.nil) ?_
    exact run_ret [] (.cons (.t rfl rfl) (.cons (.t rfl rfl) .nil)) rfl trivial rfl
  · intro rec1 k1 hk1 x1 i2
    obtain ⟨e8, e9⟩ := i2
    try dsimp only at *
    refine run_seq ?_
    refine run_seq ?_
    refine run_region (q_move .n (.t rfl) rfl <|
        q_move .n (.t rfl) rfl <|
        q_int .n (.t rfl) (.t rfl) rfl rfl <|
        Lex.nil) ?_
    refine run_cond (.t rfl) rfl (fun h3 => ?_) (fun h3 => ?_)
    · try simp only [Bool.and_eq_true, Bool.or_eq_true, Bool.not_eq_true', Bool.and_eq_false_iff, Bool.or_eq_false_iff, Bool.not_eq_false', decide_eq_true_eq, decide_eq_false_iff_not, beq_iff_eq, bne_iff_ne, beq_eq_false_iff_ne, bne_eq_false_iff_eq, Bool.true_and, ne_eq, Decidable.not_not, Int.not_lt, Int.not_le, Nat.not_lt, Nat.not_le, strB_nil, strB_nil', strB_nnil, strB_nnil'] at h3
      refine run_skip ?_
      refine run_seq ?_
      refine run_block ?_
      refine run_seq ?_
      refine run_region (q_move .n (.t rfl) rfl <|
          q_move .n (.t rfl) rfl <|
          q_call0 (full := false) .n (.c (.t rfl)) he_has (.cons (.t rfl) .nil) (passes_app hr_has (.cons (.b (.a (.same rfl))) .nil)) (fun hg => hc_has x1 (by exact hp2 _ (by omega) (by omega))) rfl (fun h => Bool.noConfusion h) rfl <|
          Lex.nil) ?_
      refine run_cond (.t rfl) rfl (fun h4 => ?_) (fun h4 => ?_)
      · try simp only [Bool.and_eq_true, Bool.or_eq_true, Bool.not_eq_true', Bool.and_eq_false_iff, Bool.or_eq_false_iff, Bool.not_eq_false', decide_eq_true_eq, decide_eq_false_iff_not, beq_iff_eq, bne_iff_ne, beq_eq_false_iff_ne, bne_eq_false_iff_eq, Bool.true_and, ne_eq, Decidable.not_not, Int.not_lt, Int.not_le, Nat.not_lt, Nat.not_le, strB_nil, strB_nil', strB_nnil, strB_nnil'] at h4
        refine run_seq ?_
        refine run_region (q_move .n (.t rfl) rfl <|
            q_assign .n (.t rfl) rfl <|
            q_assign .n (.c rfl) rfl <|
            Lex.nil) ?_
        exact run_ret [] (.cons (.t rfl rfl) (.cons (.t rfl rfl) .nil)) rfl trivial rfl
      · try simp only [Bool.and_eq_true, Bool.or_eq_true, Bool.not_eq_true', Bool.and_eq_false_iff, Bool.or_eq_false_iff, Bool.not_eq_false', decide_eq_true_eq, decide_eq_false_iff_not, beq_iff_eq, bne_iff_ne, beq_eq_false_iff_ne, bne_eq_false_iff_eq, Bool.true_and, ne_eq, Decidable.not_not, Int.not_lt, Int.not_le, Nat.not_lt, Nat.not_le, strB_nil, strB_nil', strB_nnil, strB_nnil'] at h4
        refine run_skip ?_
        refine run_endB ?_
        refine run_region (q_move .n (.t rfl) rfl <|
            q_add .n (.t rfl) (.c rfl) (fun _ => by first | omega | assumption | (simp only [List.length_append, List.length_cons, List.length_nil, List.length_replicate, put_len] at * <;> omega)) rfl <|
            q_assign .n (.t rfl) rfl <|
            Lex.nil) ?_
        exact run_again (x1 + 1) ⟨by first | omega | assumption | (simp only [List.length_append, List.length_cons, List.length_nil, List.length_replicate, put_len] at * <;> omega), by first | omega | assumption | (simp only [List.length_append, List.length_cons, List.length_nil, List.length_replicate, put_len] at * <;> omega)⟩ (by first | omega | assumption | (simp only [List.length_append, List.length_cons, List.length_nil, List.length_replicate, put_len] at * <;> omega)) (sub_of [] ⟨rfl, clo_ren hr_has rfl, rfl, trivial⟩ trivial rfl)
    · try simp only [Bool.and_eq_true, Bool.or_eq_true, Bool.not_eq_true', Bool.and_eq_false_iff, Bool.or_eq_false_iff, Bool.not_eq_false', decide_eq_true_eq, decide_eq_false_iff_not, beq_iff_eq, bne_iff_ne, beq_eq_false_iff_ne, bne_eq_false_iff_eq, Bool.true_and, ne_eq, Decidable.not_not, Int.not_lt, Int.not_le, Nat.not_lt, Nat.not_le, strB_nil, strB_nil', strB_nnil, strB_nnil'] at h3
      refine run_exit rfl ?_
      exact run_cont hk1 x1 ⟨by first | omega | assumption | (simp only [List.length_append, List.length_cons, List.length_nil, List.length_replicate, put_len] at * <;> omega), by first | omega | assumption | (simp only [List.length_append, List.length_cons, List.length_nil, List.length_replicate, put_len] at * <;> omega)⟩ (sub_of [] trivial trivial rfl)

/-! ### impl_within -/
theorem c_impl_within (n_ : Int) (low : Int) (high : Int) : Con Tryd.prog 58 [.int .i64 n_, .int .i64 low, .int .i64 high] [] (.bool (m_impl_within n_ low high)) ([]) := by
  refine con_intro (out := fun r : Bool => ((.bool r : V), ([] : List (Nat × Option O)))) (r := (m_impl_within n_ low high)) Tryd.func58 rfl Tryd.ntmps58 rfl ?_
  refine run_seq ?_
  refine run_region (q_assign .n (.c rfl) rfl <|
      Lex.nil) ?_
  refine run_seq ?_
  refine run_region (q_move .n (.t rfl) rfl <|
      q_move .n (.t rfl) rfl <|
      q_int .n (.t rfl) (.t rfl) rfl rfl <|
      q_move .n (.t rfl) rfl <|
      q_move (.t rfl rfl) (.t rfl) rfl <|
      q_move (.t rfl rfl) (.t rfl) rfl <|
      q_int (.t rfl rfl) (.u rfl id) (.u rfl id) rfl rfl <|
      q_and .n (.t rfl) (.u rfl id) rfl <|
      q_assign .n (.t rfl) rfl <|
      Lex.nil) ?_
  exact run_ret [] (.cons (.t rfl rfl) .nil) rfl trivial rfl

/-! ### impl_kindOk -/
theorem c_impl_kindOk (n_ : Int) : Con Tryd.prog 48 [.int .i64 n_] [] (.bool (m_impl_kindOk n_)) ([]) := by
  refine con_intro (out := fun r : Bool => ((.bool r : V), ([] : List (Nat × Option O)))) (r := (m_impl_kindOk n_)) Tryd.func48 rfl Tryd.ntmps48 rfl ?_
  refine run_seq ?_
  refine run_region (q_assign .n (.c rfl) rfl <|
      Lex.nil) ?_
  refine run_seq ?_
  refine run_region (q_move .n (.t rfl) rfl <|
      q_call0 (full := false) .n .f en_58 (.cons (.t rfl) (.cons (.c rfl) (.cons (.c rfl) .nil))) (.cons (.b (.a (.same rfl))) (.cons (.b (.a (.same rfl))) (.cons (.b (.a (.same rfl))) .nil))) (fun hg => c_impl_within n_ 1 4) rfl (fun h => Bool.noConfusion h) rfl <|
      q_assign .n (.t rfl) rfl <|
      Lex.nil) ?_
  exact run_ret [] (.cons (.t rfl rfl) .nil) rfl trivial rfl

/-! ### impl_KindName -/
theorem c_impl_KindName (kind : Int) : Con Tryd.prog 32 [.int .i64 kind] [] (.str (m_impl_KindName kind)) ([]) := by
  refine con_intro (out := fun r : (List UInt8) => ((.str r : V), ([] : List (Nat × Option O)))) (r := (m_impl_KindName kind)) Tryd.func32 rfl Tryd.ntmps32 rfl ?_
  refine run_seq ?_
  refine run_region (q_assign .n (.c rfl) rfl <|
      Lex.nil) ?_
  refine run_seq ?_
  refine run_seq ?_
  refine run_region (q_move .n (.t rfl) rfl <|
      q_call0 (full := false) .n .f en_48 (.cons (.t rfl) .nil) (.cons (.b (.a (.same rfl))) .nil) (fun hg => c_impl_kindOk kind) rfl (fun h => Bool.noConfusion h) rfl <|
      q_not .n (.t rfl) rfl <|
      Lex.nil) ?_
  refine run_cond (.t rfl) rfl (fun h1 => ?_) (fun h1 => ?_)
  · try simp only [Bool.and_eq_true, Bool.or_eq_true, Bool.not_eq_true', Bool.and_eq_false_iff, Bool.or_eq_false_iff, Bool.not_eq_false', decide_eq_true_eq, decide_eq_false_iff_not, beq_iff_eq, bne_iff_ne, beq_eq_false_iff_ne, bne_eq_false_iff_eq, Bool.true_and, ne_eq, Decidable.not_not, Int.not_lt, Int.not_le, Nat.not_lt, Nat.not_le, strB_nil, strB_nil', strB_nnil, strB_nnil'] at h1
    try have hf0h1 := kindOk_imp h1
    try have hf1h1 := kindOk_imp h1.1
    try have hf2h1 := kindOk_imp h1.2
    try have hf3h1 := kindOk_imp h1.1.1
    try have hf4h1 := kindOk_imp h1.1.2
    try have hf5h1 := kindOk_imp h1.2.1
    try have hf6h1 := kindOk_imp h1.2.2
    refine run_seq ?_
    refine run_region (q_assign .n (.c rfl) rfl <|
        Lex.nil) ?_
    exact run_ret [] (.cons (.t rfl rfl) .nil) rfl trivial rfl
  · try simp only [Bool.and_eq_true, Bool.or_eq_true, Bool.not_eq_true', Bool.and_eq_false_iff, Bool.or_eq_false_iff, Bool.not_eq_false', decide_eq_true_eq, decide_eq_false_iff_not, beq_iff_eq, bne_iff_ne, beq_eq_false_iff_ne, bne_eq_false_iff_eq, Bool.true_and, ne_eq, Decidable.not_not, Int.not_lt, Int.not_le, Nat.not_lt, Nat.not_le, strB_nil, strB_nil', strB_nnil, strB_nnil'] at h1
    try have hf0h1 := kindOk_imp h1
    try have hf1h1 := kindOk_imp h1.1
    try have hf2h1 := kindOk_imp h1.2
    try have hf3h1 := kindOk_imp h1.1.1
    try have hf4h1 := kindOk_imp h1.1.2
    try have hf5h1 := kindOk_imp h1.2.1
    try have hf6h1 := kindOk_imp h1.2.2
    refine run_skip ?_
    refine run_seq ?_
    refine run_region (q_builda (us := [.str ([] : List UInt8), .str ([101, 110, 116, 114, 121] : List UInt8), .str ([100, 111, 111, 114] : List UInt8), .str ([104, 111, 116] : List UInt8), .str ([98, 108, 97, 115, 116] : List UInt8)]) .n (.cons (.c rfl) (.cons (.c rfl) (.cons (.c rfl) (.cons (.c rfl) .nil)))) zv_75 ae_75 rfl rfl rfl <|
        q_move .n (.t rfl) rfl <|
        q_indexa1 (.str (at' ([([] : List UInt8), ([101, 110, 116, 114, 121] : List UInt8), ([100, 111, 111, 114] : List UInt8), ([104, 111, 116] : List UInt8), ([98, 108, 97, 115, 116] : List UInt8)] : List (List UInt8)) kind)) .n (.t rfl) (.t rfl) ae_75 ic_9 rfl (fun _ => by first | omega | assumption | (simp only [List.length_append, List.length_cons, List.length_nil, List.length_replicate, put_len] at * <;> omega)) (fun _ => by have h : kind = 0 ∨ kind = 1 ∨ kind = 2 ∨ kind = 3 ∨ kind = 4 := (by first | omega | (simp only [List.length_append, List.length_cons, List.length_nil, List.length_replicate, put_len] at *; omega)); rcases h with h | h | h | h | h <;> (rw [h]; rfl)) rfl rfl <|
        q_assign .n (.t rfl) rfl <|
        Lex.nil) ?_
    exact run_ret [] (.cons (.t rfl rfl) .nil) rfl trivial rfl

/-! ### impl_ReadPermit_1 -/
theorem c_impl_ReadPermit_1 (n_ : Int) (p1 : List (List UInt8)) (hp1 : 2 ≤ (p1.length : Int)) : Con Tryd.prog 31 [.int .i64 n_, .rp [.sl 1 (p1.map V.str)]] [] (.bool (m_impl_ReadPermit_1 n_ p1)) ([]) := by
  refine con_intro (out := fun r : Bool => ((.bool r : V), ([] : List (Nat × Option O)))) (r := (m_impl_ReadPermit_1 n_ p1)) Tryd.func31 rfl Tryd.ntmps31 rfl ?_
  refine run_factP (t := 1) 0 rfl rfl fun hl => ?_
  have l1 := hl; clear hl; simp only [List.length_map] at l1
  refine run_seq ?_
  refine run_region (q_assign .n (.c rfl) rfl <|
      Lex.nil) ?_
  refine run_seq ?_
  refine run_draw fmo (q_move .n (.t rfl) rfl <|
      q_call0 (full := false) .n .f en_32 (.cons (.t rfl) .nil) (.cons (.b (.a (.same rfl))) .nil) (fun hg => c_impl_KindName n_) rfl (fun h => Bool.noConfusion h) rfl <|
      q_ld1_ro .n (.t rfl) rfl ic_43 rfl <|
      q_idx_rm .n (.t rfl) (.c rfl) sl_43 (fun _ => by first | omega | assumption | (simp only [List.length_append, List.length_cons, List.length_nil, List.length_replicate, put_len] at * <;> omega)) rfl <|
      q_ld1_ro .n (.t rfl) rfl ic_9 rfl <|
      q_strcmp .n (.t rfl) (.t rfl) rfl rfl <|
      q_assign .n (.t rfl) rfl <|
      Lex.nil) (by kernel_rfl) ?_
  exact run_ret [] (.cons (.t rfl rfl) .nil) rfl trivial rfl

/-! ### strconv_FormatInt -/


/-! ### impl_Decimal -/
theorem c_impl_Decimal (n_ : Int) (hp1 : -9223372036854775808 ≤ n_ ∧ n_ ≤ 9223372036854775807) : Con Tryd.prog 65 [.int .i64 n_] [] (.str (m_impl_Decimal n_)) ([]) := by
  refine con_intro (out := fun r : (List UInt8) => ((.str r : V), ([] : List (Nat × Option O)))) (r := (m_impl_Decimal n_)) Tryd.func65 rfl Tryd.ntmps65 rfl ?_
  refine run_seq ?_
  refine run_region (q_assign .n (.c rfl) rfl <|
      Lex.nil) ?_
  refine run_seq ?_
  refine run_region (q_move .n (.t rfl) rfl <|
      q_call0 (full := false) .n .f en_74 (.cons (.t rfl) (.cons (.c rfl) .nil)) (.cons (.b (.a (.same rfl))) (.cons (.b (.a (.same rfl))) .nil)) (fun hg => c_strconv_FormatInt n_ 10 (by first | omega | assumption | (simp only [List.length_append, List.length_cons, List.length_nil, List.length_replicate, put_len] at * <;> omega)) (by first | omega | assumption | (simp only [List.length_append, List.length_cons, List.length_nil, List.length_replicate, put_len] at * <;> omega))) rfl (fun h => Bool.noConfusion h) rfl <|
      q_assign .n (.t rfl) rfl <|
      Lex.nil) ?_
  exact run_ret [] (.cons (.t rfl rfl) .nil) rfl trivial rfl

/-! ### strings_Join -/


/-! ### impl_ListText -/
theorem c_impl_ListText (list : List Int) : Con Tryd.prog 50 [.sl 1 (list.map (V.int .i64))] [] (.str (m_impl_ListText list)) ([]) := by
  refine con_intro (out := fun r : (List UInt8) => ((.str r : V), ([] : List (Nat × Option O)))) (r := (m_impl_ListText list)) Tryd.func50 rfl Tryd.ntmps50 rfl ?_
  refine run_fact (t := 0) rfl fun hl => ?_
  have l1 := hl; clear hl; simp only [List.length_map] at l1
  refine run_seq ?_
  refine run_region (q_assign .n (.c rfl) rfl <|
      Lex.nil) ?_
  refine run_seq ?_
  refine run_seq ?_
  refine run_region (q_move .n (.t rfl) rfl <|
      q_len .n (.t rfl) rfl len_map ss_45 rfl <|
      q_int .n (.t rfl) (.c rfl) rfl rfl <|
      Lex.nil) ?_
  refine run_cond (.t rfl) rfl (fun h2 => ?_) (fun h2 => ?_)
  · try simp only [Bool.and_eq_true, Bool.or_eq_true, Bool.not_eq_true', Bool.and_eq_false_iff, Bool.or_eq_false_iff, Bool.not_eq_false', decide_eq_true_eq, decide_eq_false_iff_not, beq_iff_eq, bne_iff_ne, beq_eq_false_iff_ne, bne_eq_false_iff_eq, Bool.true_and, ne_eq, Decidable.not_not, Int.not_lt, Int.not_le, Nat.not_lt, Nat.not_le, strB_nil, strB_nil', strB_nnil, strB_nnil'] at h2
    refine run_seq ?_
    refine run_region (q_assign .n (.c rfl) rfl <|
        Lex.nil) ?_
    exact run_ret [] (.cons (.t rfl rfl) .nil) rfl trivial rfl
  · try simp only [Bool.and_eq_true, Bool.or_eq_true, Bool.not_eq_true', Bool.and_eq_false_iff, Bool.or_eq_false_iff, Bool.not_eq_false', decide_eq_true_eq, decide_eq_false_iff_not, beq_iff_eq, bne_iff_ne, beq_eq_false_iff_ne, bne_eq_false_iff_eq, Bool.true_and, ne_eq, Decidable.not_not, Int.not_lt, Int.not_le, Nat.not_lt, Nat.not_le, strB_nil, strB_nil', strB_nnil, strB_nnil'] at h2
    refine run_skip ?_
    refine run_seq ?_
    refine run_seq ?_
    refine run_region (q_move .n (.t rfl) rfl <|
        q_len .n (.t rfl) rfl len_map ss_45 rfl <|
        q_int .n (.t rfl) (.c rfl) rfl rfl <|
        Lex.nil) ?_
    refine run_cond (.t rfl) rfl (fun h3 => ?_) (fun h3 => ?_)
    · try simp only [Bool.and_eq_true, Bool.or_eq_true, Bool.not_eq_true', Bool.and_eq_false_iff, Bool.or_eq_false_iff, Bool.not_eq_false', decide_eq_true_eq, decide_eq_false_iff_not, beq_iff_eq, bne_iff_ne, beq_eq_false_iff_ne, bne_eq_false_iff_eq, Bool.true_and, ne_eq, Decidable.not_not, Int.not_lt, Int.not_le, Nat.not_lt, Nat.not_le, strB_nil, strB_nil', strB_nnil, strB_nnil'] at h3
      refine run_seq ?_
      refine run_region (q_assign .n (.c rfl) rfl <|
          Lex.nil) ?_
      exact run_ret [] (.cons (.t rfl rfl) .nil) rfl trivial rfl
    · try simp only [Bool.and_eq_true, Bool.or_eq_true, Bool.not_eq_true', Bool.and_eq_false_iff, Bool.or_eq_false_iff, Bool.not_eq_false', decide_eq_true_eq, decide_eq_false_iff_not, beq_iff_eq, bne_iff_ne, beq_eq_false_iff_ne, bne_eq_false_iff_eq, Bool.true_and, ne_eq, Decidable.not_not, Int.not_lt, Int.not_le, Nat.not_lt, Nat.not_le, strB_nil, strB_nil', strB_nnil, strB_nnil'] at h3
      refine run_skip ?_
      refine run_seq ?_
      refine run_region (q_move .n (.t rfl) rfl <|
          q_len .n (.t rfl) rfl len_map ss_45 rfl <|
          q_makem (f := V.str) (l := 200) (([] : List UInt8) : List UInt8) .n rfl (.c rfl) (.t rfl) si_43 zv_9 (by first | omega | assumption | (simp only [List.length_append, List.length_cons, List.length_nil, List.length_replicate, put_len] at * <;> omega) | ((have hr : ((List.replicate (Int.toNat 0) ([] : List UInt8)).length : Int) = 0 := rfl; exact Lib_join_len (by omega) (by assumption))) | (exact texts_add (by assumption) (by omega) (by omega)) | ((intro y hy; simp at hy))) rfl rfl rfl <|
          q_assign .n (.t rfl) rfl <|
          Lex.nil) ?_
      refine run_seq ?_
      refine run_seq ?_
      refine run_region (q_move .n (.t rfl) rfl <|
          q_len .n (.t rfl) rfl len_map ss_45 rfl <|
          q_move .n (.c rfl) rfl <|
          Lex.nil) ?_
      refine run_block ?_
      refine run_LOOP (m_impl_ListText_b1 list) _ _ _ rfl (fun (x1 : (List (List UInt8)) × Int) => 0 ≤ x1.2 ∧ x1.2 ≤ (list.length : Int) ∧ (x1.1.length : Int) + 0 ≤ x1.2 + ((List.replicate (0 : Int).toNat (([] : List UInt8) : List UInt8)).length : Int) ∧ (∀ y ∈ x1.1, y.length ≤ 20)) (fun x1 => 0 ≤ x1.2 ∧ x1.2 ≤ (list.length : Int) ∧ (x1.1.length : Int) + 0 ≤ x1.2 + ((List.replicate (0 : Int).toNat (([] : List UInt8) : List UInt8)).length : Int) ∧ (∀ y ∈ x1.1, y.length ≤ 20) ∧ (list.length : Int) ≤ x1.2) (fun x1 => ((list.length : Int) - x1.2 : Int).toNat) (fun x1 => ⟨[(3, some (true, .os 200 x1.1.length)), (15, some (true, .sl 1 (list.map (V.int .i64)))), (16, some (true, .int .i64 (list.length : Int))), (17, some (true, .int .i64 x1.2))], [(200, some (.row 9 1 (x1.1.map V.str)))]⟩) (fun x1 => ⟨[(3, some (true, .os 200 x1.1.length))], [(200, some (.row 9 1 (x1.1.map V.str)))]⟩) ⟨by first | omega | assumption | (simp only [List.length_append, List.length_cons, List.length_nil, List.length_replicate, put_len] at * <;> omega) | ((have hr : ((List.replicate (Int.toNat 0) ([] : List UInt8)).length : Int) = 0 := rfl; exact Lib_join_len (by omega) (by assumption))) | (exact texts_add (by assumption) (by omega) (by omega)) | ((intro y hy; simp at hy)), by first | omega | assumption | (simp only [List.length_append, List.length_cons, List.length_nil, List.length_replicate, put_len] at * <;> omega) | ((have hr : ((List.replicate (Int.toNat 0) ([] : List UInt8)).length : Int) = 0 := rfl; exact Lib_join_len (by omega) (by assumption))) | (exact texts_add (by assumption) (by omega) (by omega)) | ((intro y hy; simp at hy)), by first | omega | assumption | (simp only [List.length_append, List.length_cons, List.length_nil, List.length_replicate, put_len] at * <;> omega) | ((have hr : ((List.replicate (Int.toNat 0) ([] : List UInt8)).length : Int) = 0 := rfl; exact Lib_join_len (by omega) (by assumption))) | (exact texts_add (by assumption) (by omega) (by omega)) | ((intro y hy; simp at hy)), by first | omega | assumption | (simp only [List.length_append, List.length_cons, List.length_nil, List.length_replicate, put_len] at * <;> omega) | ((have hr : ((List.replicate (Int.toNat 0) ([] : List UInt8)).length : Int) = 0 := rfl; exact Lib_join_len (by omega) (by assumption))) | (exact texts_add (by assumption) (by omega) (by omega)) | ((intro y hy; simp at hy))⟩ (by first | omega | assumption | (simp only [List.length_append, List.length_cons, List.length_nil, List.length_replicate, put_len] at * <;> omega) | ((have hr : ((List.replicate (Int.toNat 0) ([] : List UInt8)).length : Int) = 0 := rfl; exact Lib_join_len (by omega) (by assumption))) | (exact texts_add (by assumption) (by omega) (by omega)) | ((intro y hy; simp at hy))) (sub_of [] ⟨rfl, rfl, rfl, rfl, trivial⟩ ⟨rfl, trivial⟩ rfl) ?_ ?_
      · intro x1 i8
        obtain ⟨e9, e10, e11, e12, e13⟩ := i8
        try dsimp only at *
        refine run_seq ?_
        refine run_region (q_move .n (.t rfl) rfl <|
            q_call0 (full := true) .n .f en_66 (.cons (.t rfl) (.cons (.c rfl) .nil)) (.cons (.b (.a (.own rfl rfl rfl (take_all (by simp only [len_map, put_len] <;> rfl)) (by simp only [len_map, put_len] <;> rfl)))) (.cons (.b (.a (.same rfl))) .nil)) (fun hg => c_strings_Join x1.1 ([44] : List UInt8) (by first | omega | assumption | (simp only [List.length_append, List.length_cons, List.length_nil, List.length_replicate, put_len] at * <;> omega) | ((have hr : ((List.replicate (Int.toNat 0) ([] : List UInt8)).length : Int) = 0 := rfl; exact Lib_join_len (by omega) (by assumption))) | (exact texts_add (by assumption) (by omega) (by omega)) | ((intro y hy; simp at hy))) (by first | omega | assumption | (simp only [List.length_append, List.length_cons, List.length_nil, List.length_replicate, put_len] at * <;> omega) | ((have hr : ((List.replicate (Int.toNat 0) ([] : List UInt8)).length : Int) = 0 := rfl; exact Lib_join_len (by omega) (by assumption))) | (exact texts_add (by assumption) (by omega) (by omega)) | ((intro y hy; simp at hy)))) rfl (fun _ => rfl) rfl <|
            q_assign .n (.t rfl) rfl <|
            Lex.nil) ?_
        exact run_ret [] (.cons (.t rfl rfl) .nil) rfl trivial rfl
      · intro rec1 k1 hk4 x1 i5
        obtain ⟨e14, e15, e16, e17⟩ := i5
        try dsimp only at *
        refine run_seq ?_
        refine run_region (q_int .n (.t rfl) (.t rfl) rfl rfl <|
            Lex.nil) ?_
        refine run_seq ?_
        refine run_cond (.t rfl) rfl (fun h6 => ?_) (fun h6 => ?_)
        · try simp only [Bool.and_eq_true, Bool.or_eq_true, Bool.not_eq_true', Bool.and_eq_false_iff, Bool.or_eq_false_iff, Bool.not_eq_false', decide_eq_true_eq, decide_eq_false_iff_not, beq_iff_eq, bne_iff_ne, beq_eq_false_iff_ne, bne_eq_false_iff_eq, Bool.true_and, ne_eq, Decidable.not_not, Int.not_lt, Int.not_le, Nat.not_lt, Nat.not_le, strB_nil, strB_nil', strB_nnil, strB_nnil'] at h6
          refine run_skip ?_
          refine run_seq ?_
          refine run_block ?_
          refine run_seq ?_
          refine run_region (q_idx_rm .n (.t rfl) (.t rfl) sl_45 (fun _ => by first | omega | assumption | (simp only [List.length_append, List.length_cons, List.length_nil, List.length_replicate, put_len] at * <;> omega) | ((have hr : ((List.replicate (Int.toNat 0) ([] : List UInt8)).length : Int) = 0 := rfl; exact Lib_join_len (by omega) (by assumption))) | (exact texts_add (by assumption) (by omega) (by omega)) | ((intro y hy; simp at hy))) rfl <|
              q_ld1_ro .n (.t rfl) rfl ic_2 rfl <|
              q_assign .n (.t rfl) rfl <|
              Lex.nil) ?_
          refine run_seq ?_
          refine run_seq ?_
          refine run_region (q_move .n (.t rfl) rfl <|
              q_call0 (full := false) .n .f en_58 (.cons (.t rfl) (.cons (.c rfl) (.cons (.c rfl) .nil))) (.cons (.b (.a (.same rfl))) (.cons (.b (.a (.same rfl))) (.cons (.b (.a (.same rfl))) .nil))) (fun hg => c_impl_within (at' list x1.2) (-1000000000000) 1000000000000) rfl (fun h => Bool.noConfusion h) rfl <|
              q_not .n (.t rfl) rfl <|
              Lex.nil) ?_
          refine run_cond (.t rfl) rfl (fun h7 => ?_) (fun h7 => ?_)
          · try simp only [Bool.and_eq_true, Bool.or_eq_true, Bool.not_eq_true', Bool.and_eq_false_iff, Bool.or_eq_false_iff, Bool.not_eq_false', decide_eq_true_eq, decide_eq_false_iff_not, beq_iff_eq, bne_iff_ne, beq_eq_false_iff_ne, bne_eq_false_iff_eq, Bool.true_and, ne_eq, Decidable.not_not, Int.not_lt, Int.not_le, Nat.not_lt, Nat.not_le, strB_nil, strB_nil', strB_nnil, strB_nnil'] at h7
            try have hf0h7 := within_imp h7
            try have hf1h7 := within_imp h7.1
            try have hf2h7 := within_imp h7.2
            try have hf3h7 := within_imp h7.1.1
            try have hf4h7 := within_imp h7.1.2
            try have hf5h7 := within_imp h7.2.1
            try have hf6h7 := within_imp h7.2.2
            refine run_seq ?_
            refine run_region (q_assign .n (.c rfl) rfl <|
                Lex.nil) ?_
            exact run_ret [] (.cons (.t rfl rfl) .nil) rfl trivial rfl
          · try simp only [Bool.and_eq_true, Bool.or_eq_true, Bool.not_eq_true', Bool.and_eq_false_iff, Bool.or_eq_false_iff, Bool.not_eq_false', decide_eq_true_eq, decide_eq_false_iff_not, beq_iff_eq, bne_iff_ne, beq_eq_false_iff_ne, bne_eq_false_iff_eq, Bool.true_and, ne_eq, Decidable.not_not, Int.not_lt, Int.not_le, Nat.not_lt, Nat.not_le, strB_nil, strB_nil', strB_nnil, strB_nnil'] at h7
            try have hf0h7 := within_imp h7
            try have hf1h7 := within_imp h7.1
            try have hf2h7 := within_imp h7.2
            try have hf3h7 := within_imp h7.1.1
            try have hf4h7 := within_imp h7.1.2
            try have hf5h7 := within_imp h7.2.1
            try have hf6h7 := within_imp h7.2.2
            refine run_skip ?_
            refine run_region (q_move .n (.t rfl) rfl <|
                q_move .n (.t rfl) rfl <|
                q_call0 (full := false) .n .f en_65 (.cons (.t rfl) .nil) (.cons (.b (.a (.same rfl))) .nil) (fun hg => c_impl_Decimal (at' list x1.2) (by first | omega | assumption | (simp only [List.length_append, List.length_cons, List.length_nil, List.length_replicate, put_len] at * <;> omega) | ((have hr : ((List.replicate (Int.toNat 0) ([] : List UInt8)).length : Int) = 0 := rfl; exact Lib_join_len (by omega) (by assumption))) | (exact texts_add (by assumption) (by omega) (by omega)) | ((intro y hy; simp at hy)))) rfl (fun h => Bool.noConfusion h) rfl <|
                q_bslicem ([m_impl_Decimal (at' list x1.2)] : List (List UInt8)) (f := V.str) (l := 201) .n rfl rfl (.cons (.t rfl) .nil) rfl si_43 zv_9 rfl rfl rfl <|
                q_appm (xs := x1.1) (ys := ([m_impl_Decimal (at' list x1.2)] : List (List UInt8))) (f := V.str) (l := 202) .n rfl (.ow (.t rfl) rfl (take_all (by simp only [len_map, put_len] <;> rfl)) (by simp only [len_map, put_len] <;> rfl)) (.ow (.t rfl) rfl (take_all (by simp only [len_map, put_len] <;> rfl)) (by simp only [len_map, put_len] <;> rfl)) si_43 zv_9 rfl (by first | omega | assumption | (simp only [List.length_append, List.length_cons, List.length_nil, List.length_replicate, put_len] at * <;> omega) | ((have hr : ((List.replicate (Int.toNat 0) ([] : List UInt8)).length : Int) = 0 := rfl; exact Lib_join_len (by omega) (by assumption))) | (exact texts_add (by assumption) (by omega) (by omega)) | ((intro y hy; simp at hy))) rfl rfl <|
                q_assign .n (.t rfl) rfl <|
                Lex.nil) ?_
            refine run_endB ?_
            refine run_region (q_add .n (.t rfl) (.c rfl) (fun _ => by first | omega | assumption | (simp only [List.length_append, List.length_cons, List.length_nil, List.length_replicate, put_len] at * <;> omega) | ((have hr : ((List.replicate (Int.toNat 0) ([] : List UInt8)).length : Int) = 0 := rfl; exact Lib_join_len (by omega) (by assumption))) | (exact texts_add (by assumption) (by omega) (by omega)) | ((intro y hy; simp at hy))) rfl <|
                q_move .n (.t rfl) rfl <|
                Lex.nil) ?_
            exact run_again (x1.1 ++ ([m_impl_Decimal (at' list x1.2)] : List (List UInt8)), x1.2 + 1) ⟨by first | omega | assumption | (simp only [List.length_append, List.length_cons, List.length_nil, List.length_replicate, put_len] at * <;> omega) | ((have hr : ((List.replicate (Int.toNat 0) ([] : List UInt8)).length : Int) = 0 := rfl; exact Lib_join_len (by omega) (by assumption))) | (exact texts_add (by assumption) (by omega) (by omega)) | ((intro y hy; simp at hy)), by first | omega | assumption | (simp only [List.length_append, List.length_cons, List.length_nil, List.length_replicate, put_len] at * <;> omega) | ((have hr : ((List.replicate (Int.toNat 0) ([] : List UInt8)).length : Int) = 0 := rfl; exact Lib_join_len (by omega) (by assumption))) | (exact texts_add (by assumption) (by omega) (by omega)) | ((intro y hy; simp at hy)), by first | omega | assumption | (simp only [List.length_append, List.length_cons, List.length_nil, List.length_replicate, put_len] at * <;> omega) | ((have hr : ((List.replicate (Int.toNat 0) ([] : List UInt8)).length : Int) = 0 := rfl; exact Lib_join_len (by omega) (by assumption))) | (exact texts_add (by assumption) (by omega) (by omega)) | ((intro y hy; simp at hy)), by first | omega | assumption | (simp only [List.length_append, List.length_cons, List.length_nil, List.length_replicate, put_len] at * <;> omega) | ((have hr : ((List.replicate (Int.toNat 0) ([] : List UInt8)).length : Int) = 0 := rfl; exact Lib_join_len (by omega) (by assumption))) | (exact texts_add (by assumption) (by omega) (by omega)) | ((intro y hy; simp at hy))⟩ (by first | omega | assumption | (simp only [List.length_append, List.length_cons, List.length_nil, List.length_replicate, put_len] at * <;> omega) | ((have hr : ((List.replicate (Int.toNat 0) ([] : List UInt8)).length : Int) = 0 := rfl; exact Lib_join_len (by omega) (by assumption))) | (exact texts_add (by assumption) (by omega) (by omega)) | ((intro y hy; simp at hy))) (sub_of [(200, 202)] ⟨rfl, rfl, rfl, rfl, trivial⟩ ⟨rfl, trivial⟩ rfl)
        · try simp only [Bool.and_eq_true, Bool.or_eq_true, Bool.not_eq_true', Bool.and_eq_false_iff, Bool.or_eq_false_iff, Bool.not_eq_false', decide_eq_true_eq, decide_eq_false_iff_not, beq_iff_eq, bne_iff_ne, beq_eq_false_iff_ne, bne_eq_false_iff_eq, Bool.true_and, ne_eq, Decidable.not_not, Int.not_lt, Int.not_le, Nat.not_lt, Nat.not_le, strB_nil, strB_nil', strB_nnil, strB_nnil'] at h6
          refine run_exit rfl ?_
          exact run_cont hk4 (x1.1, x1.2) ⟨by first | omega | assumption | (simp only [List.length_append, List.length_cons, List.length_nil, List.length_replicate, put_len] at * <;> omega) | ((have hr : ((List.replicate (Int.toNat 0) ([] : List UInt8)).length : Int) = 0 := rfl; exact Lib_join_len (by omega) (by assumption))) | (exact texts_add (by assumption) (by omega) (by omega)) | ((intro y hy; simp at hy)), by first | omega | assumption | (simp only [List.length_append, List.length_cons, List.length_nil, List.length_replicate, put_len] at * <;> omega) | ((have hr : ((List.replicate (Int.toNat 0) ([] : List UInt8)).length : Int) = 0 := rfl; exact Lib_join_len (by omega) (by assumption))) | (exact texts_add (by assumption) (by omega) (by omega)) | ((intro y hy; simp at hy)), by first | omega | assumption | (simp only [List.length_append, List.length_cons, List.length_nil, List.length_replicate, put_len] at * <;> omega) | ((have hr : ((List.replicate (Int.toNat 0) ([] : List UInt8)).length : Int) = 0 := rfl; exact Lib_join_len (by omega) (by assumption))) | (exact texts_add (by assumption) (by omega) (by omega)) | ((intro y hy; simp at hy)), by first | omega | assumption | (simp only [List.length_append, List.length_cons, List.length_nil, List.length_replicate, put_len] at * <;> omega) | ((have hr : ((List.replicate (Int.toNat 0) ([] : List UInt8)).length : Int) = 0 := rfl; exact Lib_join_len (by omega) (by assumption))) | (exact texts_add (by assumption) (by omega) (by omega)) | ((intro y hy; simp at hy)), by first | omega | assumption | (simp only [List.length_append, List.length_cons, List.length_nil, List.length_replicate, put_len] at * <;> omega) | ((have hr : ((List.replicate (Int.toNat 0) ([] : List UInt8)).length : Int) = 0 := rfl; exact Lib_join_len (by omega) (by assumption))) | (exact texts_add (by assumption) (by omega) (by omega)) | ((intro y hy; simp at hy))⟩ (sub_of [] ⟨rfl, trivial⟩ ⟨rfl, trivial⟩ rfl)

/-! ### strings_SplitN -/


/-! ### strconv_ParseInt -/


/-! ### strings_TrimPrefix -/


/-! ### impl_ReadDecimal -/
theorem c_impl_ReadDecimal (s_ : List UInt8) (hp1 : s_.length ≤ 1048576) : Con Tryd.prog 55 [.str s_] [] (.tup [.int .i64 (m_impl_ReadDecimal s_).1, .bool (m_impl_ReadDecimal s_).2]) ([]) := by
  refine con_intro (out := fun r : Int × Bool => ((.tup [.int .i64 r.1, .bool r.2] : V), ([] : List (Nat × Option O)))) (r := (m_impl_ReadDecimal s_)) Tryd.func55 rfl Tryd.ntmps55 rfl ?_
  refine run_seq ?_
  refine run_region (q_assign .n (.c rfl) rfl <|
      q_assign .n (.c rfl) rfl <|
      Lex.nil) ?_
  refine run_seq ?_
  refine run_region (q_move .n (.t rfl) rfl <|
      q_call0 (full := false) .n .f en_68 (.cons (.t rfl) (.cons (.c rfl) (.cons (.c rfl) .nil))) (.cons (.b (.a (.same rfl))) (.cons (.b (.a (.same rfl))) (.cons (.b (.a (.same rfl))) .nil))) (fun hg => c_strconv_ParseInt s_ 10 64 (by first | omega | assumption | (simp only [List.length_append, List.length_cons, List.length_nil, List.length_replicate, put_len] at * <;> omega) | (exact parse_rng _) | ((have hq := parse_rng s_; omega))) (by first | omega | assumption | (simp only [List.length_append, List.length_cons, List.length_nil, List.length_replicate, put_len] at * <;> omega) | (exact parse_rng _) | ((have hq := parse_rng s_; omega))) (by first | omega | assumption | (simp only [List.length_append, List.length_cons, List.length_nil, List.length_replicate, put_len] at * <;> omega) | (exact parse_rng _) | ((have hq := parse_rng s_; omega)))) rfl (fun h => Bool.noConfusion h) rfl <|
      q_move .n (.t rfl) rfl <|
      q_ext .n (.t rfl) rfl rfl rfl <|
      q_ext .n (.t rfl) rfl rfl rfl <|
      q_assign .n (.t rfl) rfl <|
      q_assign .n (.t rfl) rfl <|
      Lex.nil) ?_
  refine run_seq ?_
  refine run_seq ?_
  refine run_region (q_move .n (.t rfl) rfl <|
      q_neqerr .n (.t rfl) uf_83 rfl <|
      q_move .n (.t rfl) rfl <|
      q_move (.f rfl rfl) (.t rfl) rfl <|
      q_call0 (full := false) (.f rfl rfl) .f en_69 (.cons (.u rfl id) (.cons (.c rfl) .nil)) (.cons (.b (.a (.same rfl))) (.cons (.b (.a (.same rfl))) .nil)) (fun hg => c_strings_TrimPrefix s_ ([45] : List UInt8)) rfl (fun h => Bool.noConfusion h) rfl <|
      q_len (.f rfl rfl) (.u rfl id) rfl rfl st_9 rfl <|
      q_int (.f rfl rfl) (.u rfl id) (.c rfl) rfl rfl <|
      q_or .n (.t rfl) (.u rfl id) rfl <|
      q_move .n (.t rfl) rfl <|
      q_move (.f rfl rfl) (.t rfl) rfl <|
      q_call0 (full := false) (.f rfl rfl) .f en_65 (.cons (.u rfl id) .nil) (.cons (.b (.a (.same rfl))) .nil) (fun hg => c_impl_Decimal (m_strconv_ParseInt s_ 10 64).1 (by simp only [Bool.and_eq_true, Bool.or_eq_true, Bool.not_eq_true', Bool.and_eq_false_iff, Bool.or_eq_false_iff, Bool.not_eq_false', decide_eq_true_eq, decide_eq_false_iff_not, beq_iff_eq, bne_iff_ne, beq_eq_false_iff_ne, bne_eq_false_iff_eq, Bool.true_and, ne_eq, Decidable.not_not, Int.not_lt, Int.not_le, Nat.not_lt, Nat.not_le, strB_nil, strB_nil', strB_nnil, strB_nnil'] at hg; first | omega | assumption | (simp only [List.length_append, List.length_cons, List.length_nil, List.length_replicate, put_len] at * <;> omega) | (exact parse_rng _) | ((have hq := parse_rng s_; omega)))) rfl (fun h => Bool.noConfusion h) rfl <|
      q_move (.f rfl rfl) (.t rfl) rfl <|
      q_strcmp (.f rfl rfl) (.u rfl id) (.u rfl id) rfl rfl <|
      q_or .n (.t rfl) (.u rfl id) rfl <|
      Lex.nil) ?_
  refine run_cond (.t rfl) rfl (fun h1 => ?_) (fun h1 => ?_)
  · try simp only [Bool.and_eq_true, Bool.or_eq_true, Bool.not_eq_true', Bool.and_eq_false_iff, Bool.or_eq_false_iff, Bool.not_eq_false', decide_eq_true_eq, decide_eq_false_iff_not, beq_iff_eq, bne_iff_ne, beq_eq_false_iff_ne, bne_eq_false_iff_eq, Bool.true_and, ne_eq, Decidable.not_not, Int.not_lt, Int.not_le, Nat.not_lt, Nat.not_le, strB_nil, strB_nil', strB_nnil, strB_nnil'] at h1
    refine run_seq ?_
    refine run_region (q_assign .n (.c rfl) rfl <|
        q_assign .n (.c rfl) rfl <|
        Lex.nil) ?_
    exact run_ret [] (.cons (.t rfl rfl) (.cons (.t rfl rfl) .nil)) rfl trivial rfl
  · try simp only [Bool.and_eq_true, Bool.or_eq_true, Bool.not_eq_true', Bool.and_eq_false_iff, Bool.or_eq_false_iff, Bool.not_eq_false', decide_eq_true_eq, decide_eq_false_iff_not, beq_iff_eq, bne_iff_ne, beq_eq_false_iff_ne, bne_eq_false_iff_eq, Bool.true_and, ne_eq, Decidable.not_not, Int.not_lt, Int.not_le, Nat.not_lt, Nat.not_le, strB_nil, strB_nil', strB_nnil, strB_nnil'] at h1
    refine run_skip ?_
    refine run_seq ?_
    refine run_region (q_move .n (.t rfl) rfl <|
        q_assign .n (.t rfl) rfl <|
        q_assign .n (.c rfl) rfl <|
        Lex.nil) ?_
    exact run_ret [] (.cons (.t rfl rfl) (.cons (.t rfl rfl) .nil)) rfl trivial rfl

/-! ### impl_ReadList -/
theorem c_impl_ReadList (s_ : List UInt8) (hp1 : s_.length ≤ 1048576) : Con Tryd.prog 39 [.str s_] [] (.tup [.os 100 (m_impl_ReadList s_).1.length, .bool (m_impl_ReadList s_).2]) ([(100, some (.row 2 1 ((m_impl_ReadList s_).1.map (V.int .i64))))]) := by
  refine con_intro (out := fun r : (List Int) × Bool => ((.tup [.os 100 r.1.length, .bool r.2] : V), ([(100, some (.row 2 1 (r.1.map (V.int .i64))))] : List (Nat × Option O)))) (r := (m_impl_ReadList s_)) Tryd.func39 rfl Tryd.ntmps39 rfl ?_
  refine run_seq ?_
  refine run_region (q_assign .n (.c rfl) rfl <|
      q_assign .n (.c rfl) rfl <|
      Lex.nil) ?_
  refine run_seq ?_
  refine run_seq ?_
  refine run_region (q_move .n (.t rfl) rfl <|
      q_strcmp .n (.t rfl) (.c rfl) rfl rfl <|
      Lex.nil) ?_
  refine run_cond (.t rfl) rfl (fun h1 => ?_) (fun h1 => ?_)
  · try simp only [Bool.and_eq_true, Bool.or_eq_true, Bool.not_eq_true', Bool.and_eq_false_iff, Bool.or_eq_false_iff, Bool.not_eq_false', decide_eq_true_eq, decide_eq_false_iff_not, beq_iff_eq, bne_iff_ne, beq_eq_false_iff_ne, bne_eq_false_iff_eq, Bool.true_and, ne_eq, Decidable.not_not, Int.not_lt, Int.not_le, Nat.not_lt, Nat.not_le, strB_nil, strB_nil', strB_nnil, strB_nnil'] at h1
    refine run_seq ?_
    refine run_region (q_assign .n (.c rfl) rfl <|
        q_assign .n (.c rfl) rfl <|
        Lex.nil) ?_
    refine run_sub (sub_adopt (t := 2) (l := 200) (el := 2) (sz := 1) rfl rfl) ?_
    exact run_ret [(100, 200)] (.cons (.t rfl rfl) (.cons (.t rfl rfl) .nil)) (by first | rfl | (simp only [put_len]; rfl)) ⟨rfl, trivial⟩ rfl
  · try simp only [Bool.and_eq_true, Bool.or_eq_true, Bool.not_eq_true', Bool.and_eq_false_iff, Bool.or_eq_false_iff, Bool.not_eq_false', decide_eq_true_eq, decide_eq_false_iff_not, beq_iff_eq, bne_iff_ne, beq_eq_false_iff_ne, bne_eq_false_iff_eq, Bool.true_and, ne_eq, Decidable.not_not, Int.not_lt, Int.not_le, Nat.not_lt, Nat.not_le, strB_nil, strB_nil', strB_nnil, strB_nnil'] at h1
    refine run_skip ?_
    refine run_seq ?_
    refine run_region (q_assign .n (.c rfl) rfl <|
        Lex.nil) ?_
    refine run_seq ?_
    refine run_seq ?_
    refine run_region (q_move .n (.t rfl) rfl <|
        q_callM (full := false) [] [(100, 201)] .n rfl .f en_54 (.cons (.t rfl) (.cons (.c rfl) (.cons (.c rfl) .nil))) (.cons (.b (.a (.same rfl))) (.cons (.b (.a (.same rfl))) (.cons (.b (.a (.same rfl))) .nil))) (c_strings_SplitN s_ ([44] : List UInt8) 65 (by first | omega | assumption | (simp only [List.length_append, List.length_cons, List.length_nil, List.length_replicate, put_len] at * <;> omega) | (exact splitN_memA hp1 (by omega)) | ((have hq := splitN_le s_; first | omega | (simp only [List.length_append, List.length_cons, List.length_nil] at *; omega)))) (by first | omega | assumption | (simp only [List.length_append, List.length_cons, List.length_nil, List.length_replicate, put_len] at * <;> omega) | (exact splitN_memA hp1 (by omega)) | ((have hq := splitN_le s_; first | omega | (simp only [List.length_append, List.length_cons, List.length_nil] at *; omega)))) (by first | omega | assumption | (simp only [List.length_append, List.length_cons, List.length_nil, List.length_replicate, put_len] at * <;> omega) | (exact splitN_memA hp1 (by omega)) | ((have hq := splitN_le s_; first | omega | (simp only [List.length_append, List.length_cons, List.length_nil] at *; omega))))) trivial rfl rfl (fun h => Bool.noConfusion h) (fun h => Bool.noConfusion h) rfl <|
        q_len .n (.t rfl) rfl rfl ss_43 rfl <|
        q_move .n (.c rfl) rfl <|
        Lex.nil) ?_
    refine run_block ?_
    refine run_sub (sub_adopt (t := 4) (l := 202) (el := 2) (sz := 1) rfl rfl) ?_
    refine run_LOOP (m_impl_ReadList_b1 s_) _ _ _ rfl (fun (x1 : (List Int) × Int) => 0 ≤ x1.2 ∧ x1.2 ≤ ((m_strings_SplitN s_ ([44] : List UInt8) 65).length : Int) ∧ (x1.1.length : Int) + 0 ≤ x1.2 + (([] : List Int).length : Int)) (fun x1 => 0 ≤ x1.2 ∧ x1.2 ≤ ((m_strings_SplitN s_ ([44] : List UInt8) 65).length : Int) ∧ (x1.1.length : Int) + 0 ≤ x1.2 + (([] : List Int).length : Int) ∧ ((m_strings_SplitN s_ ([44] : List UInt8) 65).length : Int) ≤ x1.2) (fun x1 => (((m_strings_SplitN s_ ([44] : List UInt8) 65).length : Int) - x1.2 : Int).toNat) (fun x1 => ⟨[(0, some (true, .str s_)), (4, some (true, .os 202 x1.1.length)), (12, some (true, .os 201 (m_strings_SplitN s_ ([44] : List UInt8) 65).length)), (13, some (true, .int .i64 ((m_strings_SplitN s_ ([44] : List UInt8) 65).length : Int))), (14, some (true, .int .i64 x1.2))], [(201, some (.row 9 1 ((m_strings_SplitN s_ ([44] : List UInt8) 65).map V.str))), (202, some (.row 2 1 (x1.1.map (V.int .i64))))]⟩) (fun x1 => ⟨[(0, some (true, .str s_)), (4, some (true, .os 202 x1.1.length))], [(202, some (.row 2 1 (x1.1.map (V.int .i64))))]⟩) ⟨by first | omega | assumption | (simp only [List.length_append, List.length_cons, List.length_nil, List.length_replicate, put_len] at * <;> omega) | (exact splitN_memA hp1 (by omega)) | ((have hq := splitN_le s_; first | omega | (simp only [List.length_append, List.length_cons, List.length_nil] at *; omega))), by first | omega | assumption | (simp only [List.length_append, List.length_cons, List.length_nil, List.length_replicate, put_len] at * <;> omega) | (exact splitN_memA hp1 (by omega)) | ((have hq := splitN_le s_; first | omega | (simp only [List.length_append, List.length_cons, List.length_nil] at *; omega))), by first | omega | assumption | (simp only [List.length_append, List.length_cons, List.length_nil, List.length_replicate, put_len] at * <;> omega) | (exact splitN_memA hp1 (by omega)) | ((have hq := splitN_le s_; first | omega | (simp only [List.length_append, List.length_cons, List.length_nil] at *; omega)))⟩ (by first | omega | assumption | (simp only [List.length_append, List.length_cons, List.length_nil, List.length_replicate, put_len] at * <;> omega) | (exact splitN_memA hp1 (by omega)) | ((have hq := splitN_le s_; first | omega | (simp only [List.length_append, List.length_cons, List.length_nil] at *; omega)))) (sub_of [] ⟨rfl, rfl, rfl, rfl, rfl, trivial⟩ ⟨rfl, rfl, trivial⟩ rfl) ?_ ?_
    · intro x1 i6
      obtain ⟨e8, e9, e10, e11⟩ := i6
      try dsimp only at *
      refine run_seq ?_
      refine run_seq ?_
      refine run_region (q_move .n (.t rfl) rfl <|
          q_call0 (full := true) .n .f en_50 (.cons (.t rfl) .nil) (.cons (.b (.a (.own rfl rfl rfl (take_all (by simp only [len_map, put_len] <;> rfl)) (by simp only [len_map, put_len] <;> rfl)))) .nil) (fun hg => c_impl_ListText x1.1) rfl (fun _ => rfl) rfl <|
          q_move .n (.t rfl) rfl <|
          q_strcmp .n (.t rfl) (.t rfl) rfl rfl <|
          Lex.nil) ?_
      refine run_cond (.t rfl) rfl (fun h7 => ?_) (fun h7 => ?_)
      · try simp only [Bool.and_eq_true, Bool.or_eq_true, Bool.not_eq_true', Bool.and_eq_false_iff, Bool.or_eq_false_iff, Bool.not_eq_false', decide_eq_true_eq, decide_eq_false_iff_not, beq_iff_eq, bne_iff_ne, beq_eq_false_iff_ne, bne_eq_false_iff_eq, Bool.true_and, ne_eq, Decidable.not_not, Int.not_lt, Int.not_le, Nat.not_lt, Nat.not_le, strB_nil, strB_nil', strB_nnil, strB_nnil'] at h7
        refine run_seq ?_
        refine run_region (q_assign .n (.c rfl) rfl <|
            q_assign .n (.c rfl) rfl <|
            Lex.nil) ?_
        refine run_sub (sub_adopt (t := 2) (l := 206) (el := 2) (sz := 1) rfl rfl) ?_
        exact run_ret [(100, 206)] (.cons (.t rfl rfl) (.cons (.t rfl rfl) .nil)) (by first | rfl | (simp only [put_len]; rfl)) ⟨rfl, trivial⟩ rfl
      · try simp only [Bool.and_eq_true, Bool.or_eq_true, Bool.not_eq_true', Bool.and_eq_false_iff, Bool.or_eq_false_iff, Bool.not_eq_false', decide_eq_true_eq, decide_eq_false_iff_not, beq_iff_eq, bne_iff_ne, beq_eq_false_iff_ne, bne_eq_false_iff_eq, Bool.true_and, ne_eq, Decidable.not_not, Int.not_lt, Int.not_le, Nat.not_lt, Nat.not_le, strB_nil, strB_nil', strB_nnil, strB_nnil'] at h7
        refine run_skip ?_
        refine run_seq ?_
        refine run_region (q_move .n (.t rfl) rfl <|
            q_assign .n (.t rfl) rfl <|
            q_assign .n (.c rfl) rfl <|
            Lex.nil) ?_
        exact run_ret [(100, 202)] (.cons (.t rfl rfl) (.cons (.t rfl rfl) .nil)) (by first | rfl | (simp only [put_len]; rfl)) ⟨rfl, trivial⟩ rfl
    · intro rec1 k1 hk2 x1 i3
      obtain ⟨e12, e13, e14⟩ := i3
      try dsimp only at *
      refine run_seq ?_
      refine run_region (q_int .n (.t rfl) (.t rfl) rfl rfl <|
          Lex.nil) ?_
      refine run_seq ?_
      refine run_cond (.t rfl) rfl (fun h4 => ?_) (fun h4 => ?_)
      · try simp only [Bool.and_eq_true, Bool.or_eq_true, Bool.not_eq_true', Bool.and_eq_false_iff, Bool.or_eq_false_iff, Bool.not_eq_false', decide_eq_true_eq, decide_eq_false_iff_not, beq_iff_eq, bne_iff_ne, beq_eq_false_iff_ne, bne_eq_false_iff_eq, Bool.true_and, ne_eq, Decidable.not_not, Int.not_lt, Int.not_le, Nat.not_lt, Nat.not_le, strB_nil, strB_nil', strB_nnil, strB_nnil'] at h4
        refine run_skip ?_
        refine run_seq ?_
        refine run_block ?_
        refine run_seq ?_
        refine run_region (q_idx_ow .n (.t rfl) (.t rfl) sl_43 (fun _ => by first | omega | assumption | (simp only [List.length_append, List.length_cons, List.length_nil, List.length_replicate, put_len] at * <;> omega) | (exact splitN_memA hp1 (by omega)) | ((have hq := splitN_le s_; first | omega | (simp only [List.length_append, List.length_cons, List.length_nil] at *; omega)))) rfl <|
            q_ld1_row .n (.t rfl) rfl (fun _ => by first | omega | assumption | (simp only [List.length_append, List.length_cons, List.length_nil, List.length_replicate, put_len] at * <;> omega) | (exact splitN_memA hp1 (by omega)) | ((have hq := splitN_le s_; first | omega | (simp only [List.length_append, List.length_cons, List.length_nil] at *; omega)))) rfl rfl rfl ic_9 rfl <|
            q_assign .n (.t rfl) rfl <|
            Lex.nil) ?_
        refine run_seq ?_
        refine run_region (q_move .n (.t rfl) rfl <|
            q_call0 (full := false) .n .f en_55 (.cons (.t rfl) .nil) (.cons (.b (.a (.same rfl))) .nil) (fun hg => c_impl_ReadDecimal (at' (m_strings_SplitN s_ ([44] : List UInt8) 65) x1.2) (by first | omega | assumption | (simp only [List.length_append, List.length_cons, List.length_nil, List.length_replicate, put_len] at * <;> omega) | (exact splitN_memA hp1 (by omega)) | ((have hq := splitN_le s_; first | omega | (simp only [List.length_append, List.length_cons, List.length_nil] at *; omega))))) rfl (fun h => Bool.noConfusion h) rfl <|
            q_move .n (.t rfl) rfl <|
            q_ext .n (.t rfl) rfl rfl rfl <|
            q_ext .n (.t rfl) rfl rfl rfl <|
            q_assign .n (.t rfl) rfl <|
            q_assign .n (.t rfl) rfl <|
            Lex.nil) ?_
        refine run_seq ?_
        refine run_seq ?_
        refine run_region (q_move .n (.t rfl) rfl <|
            q_not .n (.t rfl) rfl <|
            Lex.nil) ?_
        refine run_cond (.t rfl) rfl (fun h5 => ?_) (fun h5 => ?_)
        · try simp only [Bool.and_eq_true, Bool.or_eq_true, Bool.not_eq_true', Bool.and_eq_false_iff, Bool.or_eq_false_iff, Bool.not_eq_false', decide_eq_true_eq, decide_eq_false_iff_not, beq_iff_eq, bne_iff_ne, beq_eq_false_iff_ne, bne_eq_false_iff_eq, Bool.true_and, ne_eq, Decidable.not_not, Int.not_lt, Int.not_le, Nat.not_lt, Nat.not_le, strB_nil, strB_nil', strB_nnil, strB_nnil'] at h5
          refine run_seq ?_
          refine run_region (q_assign .n (.c rfl) rfl <|
              q_assign .n (.c rfl) rfl <|
              Lex.nil) ?_
          refine run_sub (sub_adopt (t := 2) (l := 203) (el := 2) (sz := 1) rfl rfl) ?_
          exact run_ret [(100, 203)] (.cons (.t rfl rfl) (.cons (.t rfl rfl) .nil)) (by first | rfl | (simp only [put_len]; rfl)) ⟨rfl, trivial⟩ rfl
        · try simp only [Bool.and_eq_true, Bool.or_eq_true, Bool.not_eq_true', Bool.and_eq_false_iff, Bool.or_eq_false_iff, Bool.not_eq_false', decide_eq_true_eq, decide_eq_false_iff_not, beq_iff_eq, bne_iff_ne, beq_eq_false_iff_ne, bne_eq_false_iff_eq, Bool.true_and, ne_eq, Decidable.not_not, Int.not_lt, Int.not_le, Nat.not_lt, Nat.not_le, strB_nil, strB_nil', strB_nnil, strB_nnil'] at h5
          refine run_skip ?_
          refine run_region (q_move .n (.t rfl) rfl <|
              q_move .n (.t rfl) rfl <|
              q_bslicem ([(m_impl_ReadDecimal (at' (m_strings_SplitN s_ ([44] : List UInt8) 65) x1.2)).1] : List Int) (f := V.int .i64) (l := 204) .n rfl rfl (.cons (.t rfl) .nil) rfl si_45 zv_2 rfl rfl rfl <|
              q_appm (xs := x1.1) (ys := ([(m_impl_ReadDecimal (at' (m_strings_SplitN s_ ([44] : List UInt8) 65) x1.2)).1] : List Int)) (f := V.int .i64) (l := 205) .n rfl (.ow (.t rfl) rfl (take_all (by simp only [len_map, put_len] <;> rfl)) (by simp only [len_map, put_len] <;> rfl)) (.ow (.t rfl) rfl (take_all (by simp only [len_map, put_len] <;> rfl)) (by simp only [len_map, put_len] <;> rfl)) si_45 zv_2 rfl (by first | omega | assumption | (simp only [List.length_append, List.length_cons, List.length_nil, List.length_replicate, put_len] at * <;> omega) | (exact splitN_memA hp1 (by omega)) | ((have hq := splitN_le s_; first | omega | (simp only [List.length_append, List.length_cons, List.length_nil] at *; omega)))) rfl rfl <|
              q_assign .n (.t rfl) rfl <|
              Lex.nil) ?_
          refine run_endB ?_
          refine run_region (q_add .n (.t rfl) (.c rfl) (fun _ => by first | omega | assumption | (simp only [List.length_append, List.length_cons, List.length_nil, List.length_replicate, put_len] at * <;> omega) | (exact splitN_memA hp1 (by omega)) | ((have hq := splitN_le s_; first | omega | (simp only [List.length_append, List.length_cons, List.length_nil] at *; omega)))) rfl <|
              q_move .n (.t rfl) rfl <|
              Lex.nil) ?_
          exact run_again (x1.1 ++ ([(m_impl_ReadDecimal (at' (m_strings_SplitN s_ ([44] : List UInt8) 65) x1.2)).1] : List Int), x1.2 + 1) ⟨by first | omega | assumption | (simp only [List.length_append, List.length_cons, List.length_nil, List.length_replicate, put_len] at * <;> omega) | (exact splitN_memA hp1 (by omega)) | ((have hq := splitN_le s_; first | omega | (simp only [List.length_append, List.length_cons, List.length_nil] at *; omega))), by first | omega | assumption | (simp only [List.length_append, List.length_cons, List.length_nil, List.length_replicate, put_len] at * <;> omega) | (exact splitN_memA hp1 (by omega)) | ((have hq := splitN_le s_; first | omega | (simp only [List.length_append, List.length_cons, List.length_nil] at *; omega))), by first | omega | assumption | (simp only [List.length_append, List.length_cons, List.length_nil, List.length_replicate, put_len] at * <;> omega) | (exact splitN_memA hp1 (by omega)) | ((have hq := splitN_le s_; first | omega | (simp only [List.length_append, List.length_cons, List.length_nil] at *; omega)))⟩ (by first | omega | assumption | (simp only [List.length_append, List.length_cons, List.length_nil, List.length_replicate, put_len] at * <;> omega) | (exact splitN_memA hp1 (by omega)) | ((have hq := splitN_le s_; first | omega | (simp only [List.length_append, List.length_cons, List.length_nil] at *; omega)))) (sub_of [(202, 205)] ⟨rfl, rfl, rfl, rfl, rfl, trivial⟩ ⟨rfl, rfl, trivial⟩ rfl)
      · try simp only [Bool.and_eq_true, Bool.or_eq_true, Bool.not_eq_true', Bool.and_eq_false_iff, Bool.or_eq_false_iff, Bool.not_eq_false', decide_eq_true_eq, decide_eq_false_iff_not, beq_iff_eq, bne_iff_ne, beq_eq_false_iff_ne, bne_eq_false_iff_eq, Bool.true_and, ne_eq, Decidable.not_not, Int.not_lt, Int.not_le, Nat.not_lt, Nat.not_le, strB_nil, strB_nil', strB_nnil, strB_nnil'] at h4
        refine run_exit rfl ?_
        exact run_cont hk2 (x1.1, x1.2) ⟨by first | omega | assumption | (simp only [List.length_append, List.length_cons, List.length_nil, List.length_replicate, put_len] at * <;> omega) | (exact splitN_memA hp1 (by omega)) | ((have hq := splitN_le s_; first | omega | (simp only [List.length_append, List.length_cons, List.length_nil] at *; omega))), by first | omega | assumption | (simp only [List.length_append, List.length_cons, List.length_nil, List.length_replicate, put_len] at * <;> omega) | (exact splitN_memA hp1 (by omega)) | ((have hq := splitN_le s_; first | omega | (simp only [List.length_append, List.length_cons, List.length_nil] at *; omega))), by first | omega | assumption | (simp only [List.length_append, List.length_cons, List.length_nil, List.length_replicate, put_len] at * <;> omega) | (exact splitN_memA hp1 (by omega)) | ((have hq := splitN_le s_; first | omega | (simp only [List.length_append, List.length_cons, List.length_nil] at *; omega))), by first | omega | assumption | (simp only [List.length_append, List.length_cons, List.length_nil, List.length_replicate, put_len] at * <;> omega) | (exact splitN_memA hp1 (by omega)) | ((have hq := splitN_le s_; first | omega | (simp only [List.length_append, List.length_cons, List.length_nil] at *; omega)))⟩ (sub_of [] ⟨rfl, rfl, trivial⟩ ⟨rfl, trivial⟩ rfl)

/-! ### impl_readNumbers -/
theorem c_impl_readNumbers (s_ : List UInt8) (many : Int) (hp1 : s_.length ≤ 1048576) (hp2 : 0 ≤ many ∧ many ≤ 100) : Con Tryd.prog 33 [.str s_, .int .i64 many] [] (.tup [.os 100 (m_impl_readNumbers s_ many).1.length, .bool (m_impl_readNumbers s_ many).2]) ([(100, some (.row 2 1 ((m_impl_readNumbers s_ many).1.map (V.int .i64))))]) := by
  refine con_intro (out := fun r : (List Int) × Bool => ((.tup [.os 100 r.1.length, .bool r.2] : V), ([(100, some (.row 2 1 (r.1.map (V.int .i64))))] : List (Nat × Option O)))) (r := (m_impl_readNumbers s_ many)) Tryd.func33 rfl Tryd.ntmps33 rfl ?_
  refine run_seq ?_
  refine run_region (q_assign .n (.c rfl) rfl <|
      q_assign .n (.c rfl) rfl <|
      Lex.nil) ?_
  refine run_seq ?_
  refine run_region (q_move .n (.t rfl) rfl <|
      q_callM (full := false) [] [(100, 200)] .n rfl .f en_39 (.cons (.t rfl) .nil) (.cons (.b (.a (.same rfl))) .nil) (c_impl_ReadList s_ (by first | omega | assumption | (simp only [List.length_append, List.length_cons, List.length_nil, List.length_replicate, put_len] at * <;> omega))) trivial rfl rfl (fun h => Bool.noConfusion h) (fun h => Bool.noConfusion h) rfl <|
      q_move .n (.t rfl) rfl <|
      q_ext .n (.t rfl) rfl rfl rfl <|
      q_ext .n (.t rfl) rfl rfl rfl <|
      q_assign .n (.t rfl) rfl <|
      q_assign .n (.t rfl) rfl <|
      Lex.nil) ?_
  refine run_seq ?_
  refine run_seq ?_
  refine run_region (q_move .n (.t rfl) rfl <|
      q_not .n (.t rfl) rfl <|
      q_move .n (.t rfl) rfl <|
      q_move (.f rfl rfl) (.t rfl) rfl <|
      q_len (.f rfl rfl) (.u rfl id) rfl rfl ss_45 rfl <|
      q_move (.f rfl rfl) (.t rfl) rfl <|
      q_int (.f rfl rfl) (.u rfl id) (.u rfl id) rfl rfl <|
      q_or .n (.t rfl) (.u rfl id) rfl <|
      Lex.nil) ?_
  refine run_cond (.t rfl) rfl (fun h1 => ?_) (fun h1 => ?_)
  · try simp only [Bool.and_eq_true, Bool.or_eq_true, Bool.not_eq_true', Bool.and_eq_false_iff, Bool.or_eq_false_iff, Bool.not_eq_false', decide_eq_true_eq, decide_eq_false_iff_not, beq_iff_eq, bne_iff_ne, beq_eq_false_iff_ne, bne_eq_false_iff_eq, Bool.true_and, ne_eq, Decidable.not_not, Int.not_lt, Int.not_le, Nat.not_lt, Nat.not_le, strB_nil, strB_nil', strB_nnil, strB_nnil'] at h1
    refine run_seq ?_
    refine run_region (q_move .n (.t rfl) rfl <|
        q_makem (f := V.int .i64) (l := 201) (0 : Int) .n rfl (.t rfl) (.t rfl) si_45 zv_2 (by first | omega | assumption | (simp only [List.length_append, List.length_cons, List.length_nil, List.length_replicate, put_len] at * <;> omega)) rfl rfl rfl <|
        q_assign .n (.t rfl) rfl <|
        q_assign .n (.c rfl) rfl <|
        Lex.nil) ?_
    exact run_ret [(100, 201)] (.cons (.t rfl rfl) (.cons (.t rfl rfl) .nil)) (by first | rfl | (simp only [put_len]; rfl)) ⟨rfl, trivial⟩ rfl
  · try simp only [Bool.and_eq_true, Bool.or_eq_true, Bool.not_eq_true', Bool.and_eq_false_iff, Bool.or_eq_false_iff, Bool.not_eq_false', decide_eq_true_eq, decide_eq_false_iff_not, beq_iff_eq, bne_iff_ne, beq_eq_false_iff_ne, bne_eq_false_iff_eq, Bool.true_and, ne_eq, Decidable.not_not, Int.not_lt, Int.not_le, Nat.not_lt, Nat.not_le, strB_nil, strB_nil', strB_nnil, strB_nnil'] at h1
    refine run_skip ?_
    refine run_seq ?_
    refine run_region (q_move .n (.t rfl) rfl <|
        q_assign .n (.t rfl) rfl <|
        q_assign .n (.c rfl) rfl <|
        Lex.nil) ?_
    exact run_ret [(100, 200)] (.cons (.t rfl rfl) (.cons (.t rfl rfl) .nil)) (by first | rfl | (simp only [put_len]; rfl)) ⟨rfl, trivial⟩ rfl

/-! ### impl_onlyNameBytes -/
theorem c_impl_onlyNameBytes (s_ : List UInt8) (hp1 : s_.length ≤ 10) : Con Tryd.prog 70 [.str s_] [] (.bool (m_impl_onlyNameBytes s_)) ([]) := by
  refine con_intro (out := fun r : Bool => ((.bool r : V), ([] : List (Nat × Option O)))) (r := (m_impl_onlyNameBytes s_)) Tryd.func70 rfl Tryd.ntmps70 rfl ?_
  refine run_seq ?_
  refine run_region (q_assign .n (.c rfl) rfl <|
      Lex.nil) ?_
  refine run_seq ?_
  refine run_seq ?_
  refine run_region (q_move .n (.t rfl) rfl <|
      q_len .n (.t rfl) rfl rfl st_9 rfl <|
      q_move .n (.c rfl) rfl <|
      Lex.nil) ?_
  refine run_block ?_
  refine run_LOOP (m_impl_onlyNameBytes_b1 s_) _ _ _ rfl (fun (x1 : Int) => 0 ≤ x1 ∧ x1 ≤ (s_.length : Int)) (fun x1 => 0 ≤ x1 ∧ x1 ≤ (s_.length : Int) ∧ (s_.length : Int) ≤ x1) (fun x1 => ((s_.length : Int) - x1 : Int).toNat) (fun x1 => ⟨[(0, some (true, .str s_)), (6, some (true, .int .i64 (s_.length : Int))), (7, some (true, .int .i64 x1))], []⟩) (fun x1 => ⟨[], []⟩) ⟨by first | omega | assumption | (simp only [List.length_append, List.length_cons, List.length_nil, List.length_replicate, put_len] at * <;> omega), by first | omega | assumption | (simp only [List.length_append, List.length_cons, List.length_nil, List.length_replicate, put_len] at * <;> omega)⟩ (by first | omega | assumption | (simp only [List.length_append, List.length_cons, List.length_nil, List.length_replicate, put_len] at * <;> omega)) (sub_of [] ⟨rfl, rfl, rfl, trivial⟩ trivial rfl) ?_ ?_
  · intro x1 i5
    obtain ⟨e6, e7, e8⟩ := i5
    try dsimp only at *
    refine run_seq ?_
    refine run_region (q_assign .n (.c rfl) rfl <|
        Lex.nil) ?_
    exact run_ret [] (.cons (.t rfl rfl) .nil) rfl trivial rfl
  · intro rec1 k1 hk1 x1 i2
    obtain ⟨e9, e10⟩ := i2
    try dsimp only at *
    refine run_seq ?_
    refine run_region (q_int .n (.t rfl) (.t rfl) rfl rfl <|
        Lex.nil) ?_
    refine run_seq ?_
    refine run_cond (.t rfl) rfl (fun h3 => ?_) (fun h3 => ?_)
    · try simp only [Bool.and_eq_true, Bool.or_eq_true, Bool.not_eq_true', Bool.and_eq_false_iff, Bool.or_eq_false_iff, Bool.not_eq_false', decide_eq_true_eq, decide_eq_false_iff_not, beq_iff_eq, bne_iff_ne, beq_eq_false_iff_ne, bne_eq_false_iff_eq, Bool.true_and, ne_eq, Decidable.not_not, Int.not_lt, Int.not_le, Nat.not_lt, Nat.not_le, strB_nil, strB_nil', strB_nnil, strB_nnil'] at h3
      refine run_skip ?_
      refine run_seq ?_
      refine run_block ?_
      refine run_seq ?_
      refine run_region (q_move .n (.t rfl) rfl <|
          q_assign .n (.t rfl) rfl <|
          Lex.nil) ?_
      refine run_seq ?_
      refine run_region (q_move .n (.t rfl) rfl <|
          q_move .n (.t rfl) rfl <|
          q_strat .n (.t rfl) (.t rfl) st_9 (fun _ => by first | omega | assumption | (simp only [List.length_append, List.length_cons, List.length_nil, List.length_replicate, put_len] at * <;> omega)) rfl <|
          q_assign .n (.t rfl) rfl <|
          Lex.nil) ?_
      refine run_seq ?_
      refine run_region (q_move .n (.t rfl) rfl <|
          q_int .n (.t rfl) (.c rfl) rfl rfl <|
          q_move .n (.t rfl) rfl <|
          q_move (.f rfl rfl) (.t rfl) rfl <|
          q_int (.f rfl rfl) (.u rfl id) (.c rfl) rfl rfl <|
          q_or .n (.t rfl) (.u rfl id) rfl <|
          q_move .n (.t rfl) rfl <|
          q_move (.t rfl rfl) (.t rfl) rfl <|
          q_int (.t rfl rfl) (.u rfl id) (.c rfl) rfl rfl <|
          q_move (.t rfl rfl) (.u rfl id) rfl <|
          q_move (.f rfl rfl) (.t rfl) rfl <|
          q_int (.f rfl rfl) (.u rfl id) (.c rfl) rfl rfl <|
          q_or (.t rfl rfl) (.u rfl id) (.u rfl id) rfl <|
          q_and .n (.t rfl) (.u rfl id) rfl <|
          Lex.nil) ?_
      refine run_cond (.t rfl) rfl (fun h4 => ?_) (fun h4 => ?_)
      · try simp only [Bool.and_eq_true, Bool.or_eq_true, Bool.not_eq_true', Bool.and_eq_false_iff, Bool.or_eq_false_iff, Bool.not_eq_false', decide_eq_true_eq, decide_eq_false_iff_not, beq_iff_eq, bne_iff_ne, beq_eq_false_iff_ne, bne_eq_false_iff_eq, Bool.true_and, ne_eq, Decidable.not_not, Int.not_lt, Int.not_le, Nat.not_lt, Nat.not_le, strB_nil, strB_nil', strB_nnil, strB_nnil'] at h4
        refine run_seq ?_
        refine run_region (q_assign .n (.c rfl) rfl <|
            Lex.nil) ?_
        exact run_ret [] (.cons (.t rfl rfl) .nil) rfl trivial rfl
      · try simp only [Bool.and_eq_true, Bool.or_eq_true, Bool.not_eq_true', Bool.and_eq_false_iff, Bool.or_eq_false_iff, Bool.not_eq_false', decide_eq_true_eq, decide_eq_false_iff_not, beq_iff_eq, bne_iff_ne, beq_eq_false_iff_ne, bne_eq_false_iff_eq, Bool.true_and, ne_eq, Decidable.not_not, Int.not_lt, Int.not_le, Nat.not_lt, Nat.not_le, strB_nil, strB_nil', strB_nnil, strB_nnil'] at h4
        refine run_skip ?_
        refine run_endB ?_
        refine run_region (q_add .n (.t rfl) (.c rfl) (fun _ => by first | omega | assumption | (simp only [List.length_append, List.length_cons, List.length_nil, List.length_replicate, put_len] at * <;> omega)) rfl <|
            q_move .n (.t rfl) rfl <|
            Lex.nil) ?_
        exact run_again (x1 + 1) ⟨by first | omega | assumption | (simp only [List.length_append, List.length_cons, List.length_nil, List.length_replicate, put_len] at * <;> omega), by first | omega | assumption | (simp only [List.length_append, List.length_cons, List.length_nil, List.length_replicate, put_len] at * <;> omega)⟩ (by first | omega | assumption | (simp only [List.length_append, List.length_cons, List.length_nil, List.length_replicate, put_len] at * <;> omega)) (sub_of [] ⟨rfl, rfl, rfl, trivial⟩ trivial rfl)
    · try simp only [Bool.and_eq_true, Bool.or_eq_true, Bool.not_eq_true', Bool.and_eq_false_iff, Bool.or_eq_false_iff, Bool.not_eq_false', decide_eq_true_eq, decide_eq_false_iff_not, beq_iff_eq, bne_iff_ne, beq_eq_false_iff_ne, bne_eq_false_iff_eq, Bool.true_and, ne_eq, Decidable.not_not, Int.not_lt, Int.not_le, Nat.not_lt, Nat.not_le, strB_nil, strB_nil', strB_nnil, strB_nnil'] at h3
      refine run_exit rfl ?_
      exact run_cont hk1 x1 ⟨by first | omega | assumption | (simp only [List.length_append, List.length_cons, List.length_nil, List.length_replicate, put_len] at * <;> omega), by first | omega | assumption | (simp only [List.length_append, List.length_cons, List.length_nil, List.length_replicate, put_len] at * <;> omega), by first | omega | assumption | (simp only [List.length_append, List.length_cons, List.length_nil, List.length_replicate, put_len] at * <;> omega)⟩ (sub_of [] trivial trivial rfl)

/-! ### impl_IsName -/
theorem c_impl_IsName (s_ : List UInt8) : Con Tryd.prog 56 [.str s_] [] (.bool (m_impl_IsName s_)) ([]) := by
  refine con_intro (out := fun r : Bool => ((.bool r : V), ([] : List (Nat × Option O)))) (r := (m_impl_IsName s_)) Tryd.func56 rfl Tryd.ntmps56 rfl ?_
  refine run_seq ?_
  refine run_region (q_assign .n (.c rfl) rfl <|
      Lex.nil) ?_
  refine run_seq ?_
  refine run_seq ?_
  refine run_region (q_move .n (.t rfl) rfl <|
      q_len .n (.t rfl) rfl rfl st_9 rfl <|
      q_int .n (.t rfl) (.c rfl) rfl rfl <|
      q_move .n (.t rfl) rfl <|
      q_move (.f rfl rfl) (.t rfl) rfl <|
      q_len (.f rfl rfl) (.u rfl id) rfl rfl st_9 rfl <|
      q_int (.f rfl rfl) (.u rfl id) (.c rfl) rfl rfl <|
      q_or .n (.t rfl) (.u rfl id) rfl <|
      q_move .n (.t rfl) rfl <|
      q_move (.f rfl rfl) (.t rfl) rfl <|
      q_strat (.f rfl rfl) (.u rfl id) (.c rfl) st_9 (fun hg => by simp only [Bool.and_eq_true, Bool.or_eq_true, Bool.not_eq_true', Bool.and_eq_false_iff, Bool.or_eq_false_iff, Bool.not_eq_false', decide_eq_true_eq, decide_eq_false_iff_not, beq_iff_eq, bne_iff_ne, beq_eq_false_iff_ne, bne_eq_false_iff_eq, Bool.true_and, ne_eq, Decidable.not_not, Int.not_lt, Int.not_le, Nat.not_lt, Nat.not_le, strB_nil, strB_nil', strB_nnil, strB_nnil'] at hg; first | omega | assumption | (simp only [List.length_append, List.length_cons, List.length_nil, List.length_replicate, put_len] at * <;> omega)) rfl <|
      q_int (.f rfl rfl) (.u rfl id) (.c rfl) rfl rfl <|
      q_or .n (.t rfl) (.u rfl id) rfl <|
      q_move .n (.t rfl) rfl <|
      q_move (.f rfl rfl) (.t rfl) rfl <|
      q_strat (.f rfl rfl) (.u rfl id) (.c rfl) st_9 (fun hg => by simp only [Bool.and_eq_true, Bool.or_eq_true, Bool.not_eq_true', Bool.and_eq_false_iff, Bool.or_eq_false_iff, Bool.not_eq_false', decide_eq_true_eq, decide_eq_false_iff_not, beq_iff_eq, bne_iff_ne, beq_eq_false_iff_ne, bne_eq_false_iff_eq, Bool.true_and, ne_eq, Decidable.not_not, Int.not_lt, Int.not_le, Nat.not_lt, Nat.not_le, strB_nil, strB_nil', strB_nnil, strB_nnil'] at hg; first | omega | assumption | (simp only [List.length_append, List.length_cons, List.length_nil, List.length_replicate, put_len] at * <;> omega)) rfl <|
      q_int (.f rfl rfl) (.u rfl id) (.c rfl) rfl rfl <|
      q_or .n (.t rfl) (.u rfl id) rfl <|
      Lex.nil) ?_
  refine run_cond (.t rfl) rfl (fun h1 => ?_) (fun h1 => ?_)
  · try simp only [Bool.and_eq_true, Bool.or_eq_true, Bool.not_eq_true', Bool.and_eq_false_iff, Bool.or_eq_false_iff, Bool.not_eq_false', decide_eq_true_eq, decide_eq_false_iff_not, beq_iff_eq, bne_iff_ne, beq_eq_false_iff_ne, bne_eq_false_iff_eq, Bool.true_and, ne_eq, Decidable.not_not, Int.not_lt, Int.not_le, Nat.not_lt, Nat.not_le, strB_nil, strB_nil', strB_nnil, strB_nnil'] at h1
    refine run_seq ?_
    refine run_region (q_assign .n (.c rfl) rfl <|
        Lex.nil) ?_
    exact run_ret [] (.cons (.t rfl rfl) .nil) rfl trivial rfl
  · try simp only [Bool.and_eq_true, Bool.or_eq_true, Bool.not_eq_true', Bool.and_eq_false_iff, Bool.or_eq_false_iff, Bool.not_eq_false', decide_eq_true_eq, decide_eq_false_iff_not, beq_iff_eq, bne_iff_ne, beq_eq_false_iff_ne, bne_eq_false_iff_eq, Bool.true_and, ne_eq, Decidable.not_not, Int.not_lt, Int.not_le, Nat.not_lt, Nat.not_le, strB_nil, strB_nil', strB_nnil, strB_nnil'] at h1
    refine run_skip ?_
    refine run_seq ?_
    refine run_region (q_move .n (.t rfl) rfl <|
        q_call0 (full := false) .n .f en_70 (.cons (.t rfl) .nil) (.cons (.b (.a (.same rfl))) .nil) (fun hg => c_impl_onlyNameBytes s_ (by first | omega | assumption | (simp only [List.length_append, List.length_cons, List.length_nil, List.length_replicate, put_len] at * <;> omega))) rfl (fun h => Bool.noConfusion h) rfl <|
        q_assign .n (.t rfl) rfl <|
        Lex.nil) ?_
    exact run_ret [] (.cons (.t rfl rfl) .nil) rfl trivial rfl

/-! ### impl_Permit_valid -/
theorem c_impl_Permit_valid (x_ : gPermit) : Con Tryd.prog 49 [.st [.str x_.Id, .int .i64 x_.Kind, .int .i64 x_.Airway, .int .i64 x_.From, .int .i64 x_.Until]] [] (.bool (m_impl_Permit_valid x_)) ([]) := by
  refine con_intro (out := fun r : Bool => ((.bool r : V), ([] : List (Nat × Option O)))) (r := (m_impl_Permit_valid x_)) Tryd.func49 rfl Tryd.ntmps49 rfl ?_
  refine run_seq ?_
  refine run_region (q_box (l := 200) .n rfl (.t rfl) rfl rfl rfl rfl <|
      q_assign .n (.c rfl) rfl <|
      Lex.nil) ?_
  refine run_seq ?_
  refine run_region (q_fld_ow .n (.t rfl) fo_39_0 rfl <|
      q_ld1_ow .n (.t rfl) rfl (.inr rfl) (fun _ => rfl) rfl ic_9 rfl <|
      q_call0 (full := false) .n .f en_56 (.cons (.t rfl) .nil) (.cons (.b (.a (.same rfl))) .nil) (fun hg => c_impl_IsName x_.Id) rfl (fun h => Bool.noConfusion h) rfl <|
      q_move .n (.t rfl) rfl <|
      q_fld_ow (.t rfl rfl) (.t rfl) fo_39_1 rfl <|
      q_ld1_ow (.t rfl rfl) (.u rfl id) rfl (.inr rfl) (fun _ => rfl) rfl ic_2 rfl <|
      q_call0 (full := false) (.t rfl rfl) .f en_48 (.cons (.u rfl id) .nil) (.cons (.b (.a (.same rfl))) .nil) (fun hg => c_impl_kindOk x_.Kind) rfl (fun h => Bool.noConfusion h) rfl <|
      q_and .n (.t rfl) (.u rfl id) rfl <|
      q_move .n (.t rfl) rfl <|
      q_fld_ow (.t rfl rfl) (.t rfl) fo_39_2 rfl <|
      q_ld1_ow (.t rfl rfl) (.u rfl id) rfl (.inr rfl) (fun _ => rfl) rfl ic_2 rfl <|
      q_call0 (full := false) (.t rfl rfl) .f en_58 (.cons (.u rfl id) (.cons (.c rfl) (.cons (.c rfl) .nil))) (.cons (.b (.a (.same rfl))) (.cons (.b (.a (.same rfl))) (.cons (.b (.a (.same rfl))) .nil))) (fun hg => c_impl_within x_.Airway 0 23) rfl (fun h => Bool.noConfusion h) rfl <|
      q_and .n (.t rfl) (.u rfl id) rfl <|
      q_move .n (.t rfl) rfl <|
      q_fld_ow (.t rfl rfl) (.t rfl) fo_39_4 rfl <|
      q_ld1_ow (.t rfl rfl) (.u rfl id) rfl (.inr rfl) (fun _ => rfl) rfl ic_2 rfl <|
      q_call0 (full := false) (.t rfl rfl) .f en_58 (.cons (.u rfl id) (.cons (.c rfl) (.cons (.c rfl) .nil))) (.cons (.b (.a (.same rfl))) (.cons (.b (.a (.same rfl))) (.cons (.b (.a (.same rfl))) .nil))) (fun hg => c_impl_within x_.Until 0 100000) rfl (fun h => Bool.noConfusion h) rfl <|
      q_and .n (.t rfl) (.u rfl id) rfl <|
      q_move .n (.t rfl) rfl <|
      q_fld_ow (.t rfl rfl) (.t rfl) fo_39_3 rfl <|
      q_ld1_ow (.t rfl rfl) (.u rfl id) rfl (.inr rfl) (fun _ => rfl) rfl ic_2 rfl <|
      q_fld_ow (.t rfl rfl) (.t rfl) fo_39_4 rfl <|
      q_ld1_ow (.t rfl rfl) (.u rfl id) rfl (.inr rfl) (fun _ => rfl) rfl ic_2 rfl <|
      q_int (.t rfl rfl) (.u rfl id) (.c rfl) rfl rfl <|
      q_call0 (full := false) (.t rfl rfl) .f en_58 (.cons (.u rfl id) (.cons (.c rfl) (.cons (.u rfl id) .nil))) (.cons (.b (.a (.same rfl))) (.cons (.b (.a (.same rfl))) (.cons (.b (.a (.same rfl))) .nil))) (fun hg => c_impl_within x_.From 0 (IntKind.wrap .i64 (x_.Until - 1))) rfl (fun h => Bool.noConfusion h) rfl <|
      q_and .n (.t rfl) (.u rfl id) rfl <|
      q_assign .n (.t rfl) rfl <|
      Lex.nil) ?_
  exact run_ret [] (.cons (.t rfl rfl) .nil) rfl trivial rfl

/-! ### impl_PermitText -/
theorem c_impl_PermitText (x_ : gPermit) : Con Tryd.prog 34 [.st [.str x_.Id, .int .i64 x_.Kind, .int .i64 x_.Airway, .int .i64 x_.From, .int .i64 x_.Until]] [] (.str (m_impl_PermitText x_)) ([]) := by
  refine con_intro (out := fun r : (List UInt8) => ((.str r : V), ([] : List (Nat × Option O)))) (r := (m_impl_PermitText x_)) Tryd.func34 rfl Tryd.ntmps34 rfl ?_
  refine run_seq ?_
  refine run_region (q_box (l := 200) .n rfl (.t rfl) rfl rfl rfl rfl <|
      q_assign .n (.c rfl) rfl <|
      Lex.nil) ?_
  refine run_seq ?_
  refine run_seq ?_
  refine run_region (q_ldN_ow .n (.t rfl) rfl (.inr rfl) ag_39 (fun _ => rfl) rfl rfl <|
      q_call0 (full := false) .n .f en_49 (.cons (.t rfl) .nil) (.cons (.sts rfl) .nil) (fun hg => c_impl_Permit_valid x_) rfl (fun h => Bool.noConfusion h) rfl <|
      q_not .n (.t rfl) rfl <|
      Lex.nil) ?_
  refine run_cond (.t rfl) rfl (fun h1 => ?_) (fun h1 => ?_)
  · try simp only [Bool.and_eq_true, Bool.or_eq_true, Bool.not_eq_true', Bool.and_eq_false_iff, Bool.or_eq_false_iff, Bool.not_eq_false', decide_eq_true_eq, decide_eq_false_iff_not, beq_iff_eq, bne_iff_ne, beq_eq_false_iff_ne, bne_eq_false_iff_eq, Bool.true_and, ne_eq, Decidable.not_not, Int.not_lt, Int.not_le, Nat.not_lt, Nat.not_le, strB_nil, strB_nil', strB_nnil, strB_nnil'] at h1
    try have hf0h1 := permit_imp h1
    try have hf1h1 := permit_imp h1.1
    try have hf2h1 := permit_imp h1.2
    try have hf3h1 := permit_imp h1.1.1
    try have hf4h1 := permit_imp h1.1.2
    try have hf5h1 := permit_imp h1.2.1
    try have hf6h1 := permit_imp h1.2.2
    refine run_seq ?_
    refine run_region (q_assign .n (.c rfl) rfl <|
        Lex.nil) ?_
    exact run_ret [] (.cons (.t rfl rfl) .nil) rfl trivial rfl
  · try simp only [Bool.and_eq_true, Bool.or_eq_true, Bool.not_eq_true', Bool.and_eq_false_iff, Bool.or_eq_false_iff, Bool.not_eq_false', decide_eq_true_eq, decide_eq_false_iff_not, beq_iff_eq, bne_iff_ne, beq_eq_false_iff_ne, bne_eq_false_iff_eq, Bool.true_and, ne_eq, Decidable.not_not, Int.not_lt, Int.not_le, Nat.not_lt, Nat.not_le, strB_nil, strB_nil', strB_nnil, strB_nnil'] at h1
    try have hf0h1 := permit_imp h1
    try have hf1h1 := permit_imp h1.1
    try have hf2h1 := permit_imp h1.2
    try have hf3h1 := permit_imp h1.1.1
    try have hf4h1 := permit_imp h1.1.2
    try have hf5h1 := permit_imp h1.2.1
    try have hf6h1 := permit_imp h1.2.2
    refine run_skip ?_
    refine run_seq ?_
    refine run_draw fmo (q_fld_ow .n (.t rfl) fo_39_0 rfl <|
        q_ld1_ow .n (.t rfl) rfl (.inr rfl) (fun _ => rfl) rfl ic_9 rfl <|
        q_strcat .n (.t rfl) (.c rfl) (fun _ => by first | omega | assumption | (simp only [List.length_append, List.length_cons, List.length_nil, List.length_replicate, put_len] at * <;> omega) | ((have hz := valid_len (c := x_) (by assumption); have hn := kind_len x_.Kind; have hq := ListText_len ([x_.Airway, x_.From, x_.Until] : List Int); first | (change _ + 1 ≤ _; omega) | (rw [List.length_append]; change _ + 1 + _ ≤ _; omega) | (rw [List.length_append, List.length_append]; change _ + 1 + _ + 1 ≤ _; omega) | (rw [List.length_append, List.length_append, List.length_append]; change _ + 1 + _ + 1 + _ ≤ _; omega)))) rfl <|
        q_fld_ow .n (.t rfl) fo_39_1 rfl <|
        q_ld1_ow .n (.t rfl) rfl (.inr rfl) (fun _ => rfl) rfl ic_2 rfl <|
        q_call0 (full := false) .n .f en_32 (.cons (.t rfl) .nil) (.cons (.b (.a (.same rfl))) .nil) (fun hg => c_impl_KindName x_.Kind) rfl (fun h => Bool.noConfusion h) rfl <|
        q_strcat .n (.t rfl) (.t rfl) (fun _ => by first | omega | assumption | (simp only [List.length_append, List.length_cons, List.length_nil, List.length_replicate, put_len] at * <;> omega) | ((have hz := valid_len (c := x_) (by assumption); have hn := kind_len x_.Kind; have hq := ListText_len ([x_.Airway, x_.From, x_.Until] : List Int); first | (change _ + 1 ≤ _; omega) | (rw [List.length_append]; change _ + 1 + _ ≤ _; omega) | (rw [List.length_append, List.length_append]; change _ + 1 + _ + 1 ≤ _; omega) | (rw [List.length_append, List.length_append, List.length_append]; change _ + 1 + _ + 1 + _ ≤ _; omega)))) rfl <|
        q_strcat .n (.t rfl) (.c rfl) (fun _ => by first | omega | assumption | (simp only [List.length_append, List.length_cons, List.length_nil, List.length_replicate, put_len] at * <;> omega) | ((have hz := valid_len (c := x_) (by assumption); have hn := kind_len x_.Kind; have hq := ListText_len ([x_.Airway, x_.From, x_.Until] : List Int); first | (change _ + 1 ≤ _; omega) | (rw [List.length_append]; change _ + 1 + _ ≤ _; omega) | (rw [List.length_append, List.length_append]; change _ + 1 + _ + 1 ≤ _; omega) | (rw [List.length_append, List.length_append, List.length_append]; change _ + 1 + _ + 1 + _ ≤ _; omega)))) rfl <|
        q_fld_ow .n (.t rfl) fo_39_2 rfl <|
        q_ld1_ow .n (.t rfl) rfl (.inr rfl) (fun _ => rfl) rfl ic_2 rfl <|
        q_fld_ow .n (.t rfl) fo_39_3 rfl <|
        q_ld1_ow .n (.t rfl) rfl (.inr rfl) (fun _ => rfl) rfl ic_2 rfl <|
        q_fld_ow .n (.t rfl) fo_39_4 rfl <|
        q_ld1_ow .n (.t rfl) rfl (.inr rfl) (fun _ => rfl) rfl ic_2 rfl <|
        q_bslicem ([x_.Airway, x_.From, x_.Until] : List Int) (f := V.int .i64) (l := 201) .n rfl rfl (.cons (.t rfl) (.cons (.t rfl) (.cons (.t rfl) .nil))) rfl si_45 zv_2 rfl rfl rfl <|
        q_call0 (full := true) .n .f en_50 (.cons (.t rfl) .nil) (.cons (.b (.a (.own rfl rfl rfl (take_all (by simp only [len_map, put_len] <;> rfl)) (by simp only [len_map, put_len] <;> rfl)))) .nil) (fun hg => c_impl_ListText ([x_.Airway, x_.From, x_.Until] : List Int)) rfl (fun _ => rfl) rfl <|
        q_strcat .n (.t rfl) (.t rfl) (fun _ => by first | omega | assumption | (simp only [List.length_append, List.length_cons, List.length_nil, List.length_replicate, put_len] at * <;> omega) | ((have hz := valid_len (c := x_) (by assumption); have hn := kind_len x_.Kind; have hq := ListText_len ([x_.Airway, x_.From, x_.Until] : List Int); first | (change _ + 1 ≤ _; omega) | (rw [List.length_append]; change _ + 1 + _ ≤ _; omega) | (rw [List.length_append, List.length_append]; change _ + 1 + _ + 1 ≤ _; omega) | (rw [List.length_append, List.length_append, List.length_append]; change _ + 1 + _ + 1 + _ ≤ _; omega)))) rfl <|
        q_assign .n (.t rfl) rfl <|
        Lex.nil) (by kernel_rfl) ?_
    exact run_ret [] (.cons (.t rfl rfl) .nil) rfl trivial rfl

/-! ### impl_ReadPermit -/
theorem c_impl_ReadPermit (s_ : List UInt8) (hp1 : s_.length ≤ 1048576) : Con Tryd.prog 17 [.str s_] [] (.tup [.st [.str (m_impl_ReadPermit s_).1.Id, .int .i64 (m_impl_ReadPermit s_).1.Kind, .int .i64 (m_impl_ReadPermit s_).1.Airway, .int .i64 (m_impl_ReadPermit s_).1.From, .int .i64 (m_impl_ReadPermit s_).1.Until], .bool (m_impl_ReadPermit s_).2]) ([]) := by
  refine con_intro (out := fun r : gPermit × Bool => ((.tup [.st [.str r.1.Id, .int .i64 r.1.Kind, .int .i64 r.1.Airway, .int .i64 r.1.From, .int .i64 r.1.Until], .bool r.2] : V), ([] : List (Nat × Option O)))) (r := (m_impl_ReadPermit s_)) Tryd.func17 rfl Tryd.ntmps17 rfl ?_
  refine run_seq ?_
  refine run_region (q_alloc (l := 200) .n rfl zv_39 rfl rfl <|
      q_assign .n (.c rfl) rfl <|
      Lex.nil) ?_
  refine run_seq ?_
  refine run_region (q_move .n (.t rfl) rfl <|
      q_callM (full := false) [] [(100, 201)] .n rfl .f en_29 (.cons (.t rfl) (.cons (.c rfl) .nil)) (.cons (.b (.a (.same rfl))) (.cons (.b (.a (.same rfl))) .nil)) (c_strings_Split s_ ([32] : List UInt8) (by first | omega | assumption | (simp only [List.length_append, List.length_cons, List.length_nil, List.length_replicate, put_len] at * <;> omega) | ((have hd : (m_strings_Split s_ ([32] : List UInt8)).length = (Lib.split s_ ([32] : List UInt8)).length := rfl; omega)) | ((have hd : (m_strings_Split s_ ([32] : List UInt8)).length = (Lib.split s_ ([32] : List UInt8)).length := rfl; exact cut3_len hp1 (by omega))) | (exact cut3_len hp1 (by omega)) | ((have hq := readNumbers_len (at' (m_strings_Split s_ ([32] : List UInt8)) 2) 3 (by omega); omega)) | (exact cut3_rd _) | ((intro x hx1 hx2; exact trivial))) (by first | omega | assumption | (simp only [List.length_append, List.length_cons, List.length_nil, List.length_replicate, put_len] at * <;> omega) | ((have hd : (m_strings_Split s_ ([32] : List UInt8)).length = (Lib.split s_ ([32] : List UInt8)).length := rfl; omega)) | ((have hd : (m_strings_Split s_ ([32] : List UInt8)).length = (Lib.split s_ ([32] : List UInt8)).length := rfl; exact cut3_len hp1 (by omega))) | (exact cut3_len hp1 (by omega)) | ((have hq := readNumbers_len (at' (m_strings_Split s_ ([32] : List UInt8)) 2) 3 (by omega); omega)) | (exact cut3_rd _) | ((intro x hx1 hx2; exact trivial)))) trivial rfl rfl (fun h => Bool.noConfusion h) (fun h => Bool.noConfusion h) rfl <|
      q_alloc (l := 202) .n rfl zv_43 rfl rfl <|
      q_st_boxm [.os 201 (m_strings_Split s_ ([32] : List UInt8)).length] .n rfl (.t rfl) (.t rfl) rfl ts_43 rfl rfl <|
      Lex.nil) ?_
  refine run_seq ?_
  refine run_seq ?_
  refine run_region (q_ld1_ow .n (.t rfl) rfl (.inr rfl) (fun _ => rfl) rfl ic_43 rfl <|
      q_len .n (.t rfl) rfl rfl ss_43 rfl <|
      q_int .n (.t rfl) (.c rfl) rfl rfl <|
      Lex.nil) ?_
  refine run_cond (.t rfl) rfl (fun h1 => ?_) (fun h1 => ?_)
  · try simp only [Bool.and_eq_true, Bool.or_eq_true, Bool.not_eq_true', Bool.and_eq_false_iff, Bool.or_eq_false_iff, Bool.not_eq_false', decide_eq_true_eq, decide_eq_false_iff_not, beq_iff_eq, bne_iff_ne, beq_eq_false_iff_ne, bne_eq_false_iff_eq, Bool.true_and, ne_eq, Decidable.not_not, Int.not_lt, Int.not_le, Nat.not_lt, Nat.not_le, strB_nil, strB_nil', strB_nnil, strB_nnil'] at h1
    refine run_seq ?_
    refine run_region (q_build (us := [.str ([] : List UInt8), .int .i64 0, .int .i64 0, .int .i64 0, .int .i64 0]) .n .nil zv_39 pl_39 rfl rfl rfl <|
        q_st_boxm [.str ([] : List UInt8), .int .i64 0, .int .i64 0, .int .i64 0, .int .i64 0] .n rfl (.t rfl) (.t rfl) rfl ts_39 rfl rfl <|
        q_assign .n (.c rfl) rfl <|
        Lex.nil) ?_
    exact run_ret [] (.cons (.cN rfl rfl ag_39 rfl rfl) (.cons (.t rfl rfl) .nil)) (by first | rfl | (simp only [put_len]; rfl)) trivial rfl
  · try simp only [Bool.and_eq_true, Bool.or_eq_true, Bool.not_eq_true', Bool.and_eq_false_iff, Bool.or_eq_false_iff, Bool.not_eq_false', decide_eq_true_eq, decide_eq_false_iff_not, beq_iff_eq, bne_iff_ne, beq_eq_false_iff_ne, bne_eq_false_iff_eq, Bool.true_and, ne_eq, Decidable.not_not, Int.not_lt, Int.not_le, Nat.not_lt, Nat.not_le, strB_nil, strB_nil', strB_nnil, strB_nnil'] at h1
    refine run_skip ?_
    refine run_seq ?_
    refine run_region (q_clo .n (.cons (.t rfl) .nil) rfl rfl <|
        q_call0 (full := true) .n .f en_30 (.cons (.c rfl) (.cons (.c rfl) (.cons (.t rfl) .nil))) (.cons (.b (.a (.same rfl))) (.cons (.b (.a (.same rfl))) (.cons (.clo (.cons (.ptr rfl rfl (.inr rfl) rfl rfl (.cons (.own rfl rfl rfl (take_all (by simp only [len_map, put_len] <;> rfl)) (by simp only [len_map, put_len] <;> rfl)) .nil)) .nil)) .nil))) (fun hg => c_impl_least 1 4 (fun (a0 : Int) => m_impl_ReadPermit_1 a0 (m_strings_Split s_ ([32] : List UInt8))) 31 [.rp [.sl 1 ((m_strings_Split s_ ([32] : List UInt8)).map V.str)]] en_31 rfl (fun y => True) (fun a0 hq0 => c_impl_ReadPermit_1 a0 (m_strings_Split s_ ([32] : List UInt8)) (by (try dsimp only at *); first | omega | assumption | (simp only [List.length_append, List.length_cons, List.length_nil, List.length_replicate, put_len] at * <;> omega) | ((have hd : (m_strings_Split s_ ([32] : List UInt8)).length = (Lib.split s_ ([32] : List UInt8)).length := rfl; omega)) | ((have hd : (m_strings_Split s_ ([32] : List UInt8)).length = (Lib.split s_ ([32] : List UInt8)).length := rfl; exact cut3_len hp1 (by omega))) | (exact cut3_len hp1 (by omega)) | ((have hq := readNumbers_len (at' (m_strings_Split s_ ([32] : List UInt8)) 2) 3 (by omega); omega)) | (exact cut3_rd _) | ((intro x hx1 hx2; exact trivial)))) (by first | omega | assumption | (simp only [List.length_append, List.length_cons, List.length_nil, List.length_replicate, put_len] at * <;> omega) | ((have hd : (m_strings_Split s_ ([32] : List UInt8)).length = (Lib.split s_ ([32] : List UInt8)).length := rfl; omega)) | ((have hd : (m_strings_Split s_ ([32] : List UInt8)).length = (Lib.split s_ ([32] : List UInt8)).length := rfl; exact cut3_len hp1 (by omega))) | (exact cut3_len hp1 (by omega)) | ((have hq := readNumbers_len (at' (m_strings_Split s_ ([32] : List UInt8)) 2) 3 (by omega); omega)) | (exact cut3_rd _) | ((intro x hx1 hx2; exact trivial))) (by first | omega | assumption | (simp only [List.length_append, List.length_cons, List.length_nil, List.length_replicate, put_len] at * <;> omega) | ((have hd : (m_strings_Split s_ ([32] : List UInt8)).length = (Lib.split s_ ([32] : List UInt8)).length := rfl; omega)) | ((have hd : (m_strings_Split s_ ([32] : List UInt8)).length = (Lib.split s_ ([32] : List UInt8)).length := rfl; exact cut3_len hp1 (by omega))) | (exact cut3_len hp1 (by omega)) | ((have hq := readNumbers_len (at' (m_strings_Split s_ ([32] : List UInt8)) 2) 3 (by omega); omega)) | (exact cut3_rd _) | ((intro x hx1 hx2; exact trivial)))) rfl (fun _ => rfl) rfl <|
        q_move .n (.t rfl) rfl <|
        q_ext .n (.t rfl) rfl rfl rfl <|
        q_ext .n (.t rfl) rfl rfl rfl <|
        q_assign .n (.t rfl) rfl <|
        q_assign .n (.t rfl) rfl <|
        Lex.nil) ?_
    refine run_seq ?_
    refine run_region (q_ld1_ow .n (.t rfl) rfl (.inr rfl) (fun _ => rfl) rfl ic_43 rfl <|
        q_idx_ow .n (.t rfl) (.c rfl) sl_43 (fun _ => by first | omega | assumption | (simp only [List.length_append, List.length_cons, List.length_nil, List.length_replicate, put_len] at * <;> omega) | ((have hd : (m_strings_Split s_ ([32] : List UInt8)).length = (Lib.split s_ ([32] : List UInt8)).length := rfl; omega)) | ((have hd : (m_strings_Split s_ ([32] : List UInt8)).length = (Lib.split s_ ([32] : List UInt8)).length := rfl; exact cut3_len hp1 (by omega))) | (exact cut3_len hp1 (by omega)) | ((have hq := readNumbers_len (at' (m_strings_Split s_ ([32] : List UInt8)) 2) 3 (by omega); omega)) | (exact cut3_rd _) | ((intro x hx1 hx2; exact trivial))) rfl <|
        q_ld1_row .n (.t rfl) rfl (fun _ => by first | omega | assumption | (simp only [List.length_append, List.length_cons, List.length_nil, List.length_replicate, put_len] at * <;> omega) | ((have hd : (m_strings_Split s_ ([32] : List UInt8)).length = (Lib.split s_ ([32] : List UInt8)).length := rfl; omega)) | ((have hd : (m_strings_Split s_ ([32] : List UInt8)).length = (Lib.split s_ ([32] : List UInt8)).length := rfl; exact cut3_len hp1 (by omega))) | (exact cut3_len hp1 (by omega)) | ((have hq := readNumbers_len (at' (m_strings_Split s_ ([32] : List UInt8)) 2) 3 (by omega); omega)) | (exact cut3_rd _) | ((intro x hx1 hx2; exact trivial))) rfl rfl rfl ic_9 rfl <|
        q_callM (full := false) [] [(100, 203)] .n rfl .f en_33 (.cons (.t rfl) (.cons (.c rfl) .nil)) (.cons (.b (.a (.same rfl))) (.cons (.b (.a (.same rfl))) .nil)) (c_impl_readNumbers (at' (m_strings_Split s_ ([32] : List UInt8)) 2) 3 (by first | omega | assumption | (simp only [List.length_append, List.length_cons, List.length_nil, List.length_replicate, put_len] at * <;> omega) | ((have hd : (m_strings_Split s_ ([32] : List UInt8)).length = (Lib.split s_ ([32] : List UInt8)).length := rfl; omega)) | ((have hd : (m_strings_Split s_ ([32] : List UInt8)).length = (Lib.split s_ ([32] : List UInt8)).length := rfl; exact cut3_len hp1 (by omega))) | (exact cut3_len hp1 (by omega)) | ((have hq := readNumbers_len (at' (m_strings_Split s_ ([32] : List UInt8)) 2) 3 (by omega); omega)) | (exact cut3_rd _) | ((intro x hx1 hx2; exact trivial))) (by first | omega | assumption | (simp only [List.length_append, List.length_cons, List.length_nil, List.length_replicate, put_len] at * <;> omega) | ((have hd : (m_strings_Split s_ ([32] : List UInt8)).length = (Lib.split s_ ([32] : List UInt8)).length := rfl; omega)) | ((have hd : (m_strings_Split s_ ([32] : List UInt8)).length = (Lib.split s_ ([32] : List UInt8)).length := rfl; exact cut3_len hp1 (by omega))) | (exact cut3_len hp1 (by omega)) | ((have hq := readNumbers_len (at' (m_strings_Split s_ ([32] : List UInt8)) 2) 3 (by omega); omega)) | (exact cut3_rd _) | ((intro x hx1 hx2; exact trivial)))) trivial rfl rfl (fun h => Bool.noConfusion h) (fun h => Bool.noConfusion h) rfl <|
        q_move .n (.t rfl) rfl <|
        q_ext .n (.t rfl) rfl rfl rfl <|
        q_ext .n (.t rfl) rfl rfl rfl <|
        q_assign .n (.t rfl) rfl <|
        q_assign .n (.t rfl) rfl <|
        Lex.nil) ?_
    refine run_seq ?_
    refine run_draw fmo (q_ld1_ow .n (.t rfl) rfl (.inr rfl) (fun _ => rfl) rfl ic_43 rfl <|
        q_idx_ow .n (.t rfl) (.c rfl) sl_43 (fun _ => by first | omega | assumption | (simp only [List.length_append, List.length_cons, List.length_nil, List.length_replicate, put_len] at * <;> omega) | ((have hd : (m_strings_Split s_ ([32] : List UInt8)).length = (Lib.split s_ ([32] : List UInt8)).length := rfl; omega)) | ((have hd : (m_strings_Split s_ ([32] : List UInt8)).length = (Lib.split s_ ([32] : List UInt8)).length := rfl; exact cut3_len hp1 (by omega))) | (exact cut3_len hp1 (by omega)) | ((have hq := readNumbers_len (at' (m_strings_Split s_ ([32] : List UInt8)) 2) 3 (by omega); omega)) | (exact cut3_rd _) | ((intro x hx1 hx2; exact trivial))) rfl <|
        q_ld1_row .n (.t rfl) rfl (fun _ => by first | omega | assumption | (simp only [List.length_append, List.length_cons, List.length_nil, List.length_replicate, put_len] at * <;> omega) | ((have hd : (m_strings_Split s_ ([32] : List UInt8)).length = (Lib.split s_ ([32] : List UInt8)).length := rfl; omega)) | ((have hd : (m_strings_Split s_ ([32] : List UInt8)).length = (Lib.split s_ ([32] : List UInt8)).length := rfl; exact cut3_len hp1 (by omega))) | (exact cut3_len hp1 (by omega)) | ((have hq := readNumbers_len (at' (m_strings_Split s_ ([32] : List UInt8)) 2) 3 (by omega); omega)) | (exact cut3_rd _) | ((intro x hx1 hx2; exact trivial))) rfl rfl rfl ic_9 rfl <|
        q_move .n (.t rfl) rfl <|
        q_move .n (.t rfl) rfl <|
        q_idx_ow .n (.t rfl) (.c rfl) sl_45 (fun _ => by first | omega | assumption | (simp only [List.length_append, List.length_cons, List.length_nil, List.length_replicate, put_len] at * <;> omega) | ((have hd : (m_strings_Split s_ ([32] : List UInt8)).length = (Lib.split s_ ([32] : List UInt8)).length := rfl; omega)) | ((have hd : (m_strings_Split s_ ([32] : List UInt8)).length = (Lib.split s_ ([32] : List UInt8)).length := rfl; exact cut3_len hp1 (by omega))) | (exact cut3_len hp1 (by omega)) | ((have hq := readNumbers_len (at' (m_strings_Split s_ ([32] : List UInt8)) 2) 3 (by omega); omega)) | (exact cut3_rd _) | ((intro x hx1 hx2; exact trivial))) rfl <|
        q_ld1_row .n (.t rfl) rfl (fun _ => by first | omega | assumption | (simp only [List.length_append, List.length_cons, List.length_nil, List.length_replicate, put_len] at * <;> omega) | ((have hd : (m_strings_Split s_ ([32] : List UInt8)).length = (Lib.split s_ ([32] : List UInt8)).length := rfl; omega)) | ((have hd : (m_strings_Split s_ ([32] : List UInt8)).length = (Lib.split s_ ([32] : List UInt8)).length := rfl; exact cut3_len hp1 (by omega))) | (exact cut3_len hp1 (by omega)) | ((have hq := readNumbers_len (at' (m_strings_Split s_ ([32] : List UInt8)) 2) 3 (by omega); omega)) | (exact cut3_rd _) | ((intro x hx1 hx2; exact trivial))) rfl rfl rfl ic_2 rfl <|
        q_move .n (.t rfl) rfl <|
        q_idx_ow .n (.t rfl) (.c rfl) sl_45 (fun _ => by first | omega | assumption | (simp only [List.length_append, List.length_cons, List.length_nil, List.length_replicate, put_len] at * <;> omega) | ((have hd : (m_strings_Split s_ ([32] : List UInt8)).length = (Lib.split s_ ([32] : List UInt8)).length := rfl; omega)) | ((have hd : (m_strings_Split s_ ([32] : List UInt8)).length = (Lib.split s_ ([32] : List UInt8)).length := rfl; exact cut3_len hp1 (by omega))) | (exact cut3_len hp1 (by omega)) | ((have hq := readNumbers_len (at' (m_strings_Split s_ ([32] : List UInt8)) 2) 3 (by omega); omega)) | (exact cut3_rd _) | ((intro x hx1 hx2; exact trivial))) rfl <|
        q_ld1_row .n (.t rfl) rfl (fun _ => by first | omega | assumption | (simp only [List.length_append, List.length_cons, List.length_nil, List.length_replicate, put_len] at * <;> omega) | ((have hd : (m_strings_Split s_ ([32] : List UInt8)).length = (Lib.split s_ ([32] : List UInt8)).length := rfl; omega)) | ((have hd : (m_strings_Split s_ ([32] : List UInt8)).length = (Lib.split s_ ([32] : List UInt8)).length := rfl; exact cut3_len hp1 (by omega))) | (exact cut3_len hp1 (by omega)) | ((have hq := readNumbers_len (at' (m_strings_Split s_ ([32] : List UInt8)) 2) 3 (by omega); omega)) | (exact cut3_rd _) | ((intro x hx1 hx2; exact trivial))) rfl rfl rfl ic_2 rfl <|
        q_move .n (.t rfl) rfl <|
        q_idx_ow .n (.t rfl) (.c rfl) sl_45 (fun _ => by first | omega | assumption | (simp only [List.length_append, List.length_cons, List.length_nil, List.length_replicate, put_len] at * <;> omega) | ((have hd : (m_strings_Split s_ ([32] : List UInt8)).length = (Lib.split s_ ([32] : List UInt8)).length := rfl; omega)) | ((have hd : (m_strings_Split s_ ([32] : List UInt8)).length = (Lib.split s_ ([32] : List UInt8)).length := rfl; exact cut3_len hp1 (by omega))) | (exact cut3_len hp1 (by omega)) | ((have hq := readNumbers_len (at' (m_strings_Split s_ ([32] : List UInt8)) 2) 3 (by omega); omega)) | (exact cut3_rd _) | ((intro x hx1 hx2; exact trivial))) rfl <|
        q_ld1_row .n (.t rfl) rfl (fun _ => by first | omega | assumption | (simp only [List.length_append, List.length_cons, List.length_nil, List.length_replicate, put_len] at * <;> omega) | ((have hd : (m_strings_Split s_ ([32] : List UInt8)).length = (Lib.split s_ ([32] : List UInt8)).length := rfl; omega)) | ((have hd : (m_strings_Split s_ ([32] : List UInt8)).length = (Lib.split s_ ([32] : List UInt8)).length := rfl; exact cut3_len hp1 (by omega))) | (exact cut3_len hp1 (by omega)) | ((have hq := readNumbers_len (at' (m_strings_Split s_ ([32] : List UInt8)) 2) 3 (by omega); omega)) | (exact cut3_rd _) | ((intro x hx1 hx2; exact trivial))) rfl rfl rfl ic_2 rfl <|
        q_build (us := [.str (at' (m_strings_Split s_ ([32] : List UInt8)) 0), .int .i64 (m_impl_least 1 4 (fun (a0 : Int) => m_impl_ReadPermit_1 a0 (m_strings_Split s_ ([32] : List UInt8)))).1, .int .i64 (at' (m_impl_readNumbers (at' (m_strings_Split s_ ([32] : List UInt8)) 2) 3).1 0), .int .i64 (at' (m_impl_readNumbers (at' (m_strings_Split s_ ([32] : List UInt8)) 2) 3).1 1), .int .i64 (at' (m_impl_readNumbers (at' (m_strings_Split s_ ([32] : List UInt8)) 2) 3).1 2)]) .n (.cons (.t rfl) (.cons (.t rfl) (.cons (.t rfl) (.cons (.t rfl) (.cons (.t rfl) .nil))))) zv_39 pl_39 rfl rfl rfl <|
        q_alloc (l := 204) .n rfl zv_39 rfl rfl <|
        q_st_boxm [.str (at' (m_strings_Split s_ ([32] : List UInt8)) 0), .int .i64 (m_impl_least 1 4 (fun (a0 : Int) => m_impl_ReadPermit_1 a0 (m_strings_Split s_ ([32] : List UInt8)))).1, .int .i64 (at' (m_impl_readNumbers (at' (m_strings_Split s_ ([32] : List UInt8)) 2) 3).1 0), .int .i64 (at' (m_impl_readNumbers (at' (m_strings_Split s_ ([32] : List UInt8)) 2) 3).1 1), .int .i64 (at' (m_impl_readNumbers (at' (m_strings_Split s_ ([32] : List UInt8)) 2) 3).1 2)] .n rfl (.t rfl) (.t rfl) rfl ts_39 rfl rfl <|
        Lex.nil) (by kernel_rfl) ?_
    refine run_seq ?_
    refine run_seq ?_
    refine run_region (q_move .n (.t rfl) rfl <|
        q_not .n (.t rfl) rfl <|
        q_move .n (.t rfl) rfl <|
        q_move (.f rfl rfl) (.t rfl) rfl <|
        q_not (.f rfl rfl) (.u rfl id) rfl <|
        q_or .n (.t rfl) (.u rfl id) rfl <|
        q_move .n (.t rfl) rfl <|
        q_ldN_ow (.f rfl rfl) (.t rfl) rfl (.inr rfl) ag_39 (fun _ => rfl) rfl rfl <|
        q_call0 (full := false) (.f rfl rfl) .f en_34 (.cons (.u rfl id) .nil) (.cons (.sts rfl) .nil) (fun hg => c_impl_PermitText (gPermit.mk (at' (m_strings_Split s_ ([32] : List UInt8)) 0) (m_impl_least 1 4 (fun (a0 : Int) => m_impl_ReadPermit_1 a0 (m_strings_Split s_ ([32] : List UInt8)))).1 (at' (m_impl_readNumbers (at' (m_strings_Split s_ ([32] : List UInt8)) 2) 3).1 0) (at' (m_impl_readNumbers (at' (m_strings_Split s_ ([32] : List UInt8)) 2) 3).1 1) (at' (m_impl_readNumbers (at' (m_strings_Split s_ ([32] : List UInt8)) 2) 3).1 2))) rfl (fun h => Bool.noConfusion h) rfl <|
        q_move (.f rfl rfl) (.t rfl) rfl <|
        q_strcmp (.f rfl rfl) (.u rfl id) (.u rfl id) rfl rfl <|
        q_or .n (.t rfl) (.u rfl id) rfl <|
        Lex.nil) ?_
    refine run_cond (.t rfl) rfl (fun h2 => ?_) (fun h2 => ?_)
    · try simp only [Bool.and_eq_true, Bool.or_eq_true, Bool.not_eq_true', Bool.and_eq_false_iff, Bool.or_eq_false_iff, Bool.not_eq_false', decide_eq_true_eq, decide_eq_false_iff_not, beq_iff_eq, bne_iff_ne, beq_eq_false_iff_ne, bne_eq_false_iff_eq, Bool.true_and, ne_eq, Decidable.not_not, Int.not_lt, Int.not_le, Nat.not_lt, Nat.not_le, strB_nil, strB_nil', strB_nnil, strB_nnil'] at h2
      refine run_seq ?_
      refine run_region (q_build (us := [.str ([] : List UInt8), .int .i64 0, .int .i64 0, .int .i64 0, .int .i64 0]) .n .nil zv_39 pl_39 rfl rfl rfl <|
          q_st_boxm [.str ([] : List UInt8), .int .i64 0, .int .i64 0, .int .i64 0, .int .i64 0] .n rfl (.t rfl) (.t rfl) rfl ts_39 rfl rfl <|
          q_assign .n (.c rfl) rfl <|
          Lex.nil) ?_
      exact run_ret [] (.cons (.cN rfl rfl ag_39 rfl rfl) (.cons (.t rfl rfl) .nil)) (by first | rfl | (simp only [put_len]; rfl)) trivial rfl
    · try simp only [Bool.and_eq_true, Bool.or_eq_true, Bool.not_eq_true', Bool.and_eq_false_iff, Bool.or_eq_false_iff, Bool.not_eq_false', decide_eq_true_eq, decide_eq_false_iff_not, beq_iff_eq, bne_iff_ne, beq_eq_false_iff_ne, bne_eq_false_iff_eq, Bool.true_and, ne_eq, Decidable.not_not, Int.not_lt, Int.not_le, Nat.not_lt, Nat.not_le, strB_nil, strB_nil', strB_nnil, strB_nnil'] at h2
      refine run_skip ?_
      refine run_seq ?_
      refine run_region (q_ldN_ow .n (.t rfl) rfl (.inr rfl) ag_39 (fun _ => rfl) rfl rfl <|
          q_st_boxm [.str (at' (m_strings_Split s_ ([32] : List UInt8)) 0), .int .i64 (m_impl_least 1 4 (fun (a0 : Int) => m_impl_ReadPermit_1 a0 (m_strings_Split s_ ([32] : List UInt8)))).1, .int .i64 (at' (m_impl_readNumbers (at' (m_strings_Split s_ ([32] : List UInt8)) 2) 3).1 0), .int .i64 (at' (m_impl_readNumbers (at' (m_strings_Split s_ ([32] : List UInt8)) 2) 3).1 1), .int .i64 (at' (m_impl_readNumbers (at' (m_strings_Split s_ ([32] : List UInt8)) 2) 3).1 2)] .n rfl (.t rfl) (.t rfl) rfl ts_39 rfl rfl <|
          q_assign .n (.c rfl) rfl <|
          Lex.nil) ?_
      exact run_ret [] (.cons (.cN rfl rfl ag_39 rfl rfl) (.cons (.t rfl rfl) .nil)) (by first | rfl | (simp only [put_len]; rfl)) trivial rfl

/-! ### laws_eqPermit -/
theorem c_laws_eqPermit (a : gPermit) (b : gPermit) : Con Tryd.prog 18 [.st [.str a.Id, .int .i64 a.Kind, .int .i64 a.Airway, .int .i64 a.From, .int .i64 a.Until], .st [.str b.Id, .int .i64 b.Kind, .int .i64 b.Airway, .int .i64 b.From, .int .i64 b.Until]] [] (.bool (m_laws_eqPermit a b)) ([]) := by
  refine con_intro (out := fun r : Bool => ((.bool r : V), ([] : List (Nat × Option O)))) (r := (m_laws_eqPermit a b)) Tryd.func18 rfl Tryd.ntmps18 rfl ?_
  refine run_seq ?_
  refine run_region (q_box (l := 200) .n rfl (.t rfl) rfl rfl rfl rfl <|
      q_box (l := 201) .n rfl (.t rfl) rfl rfl rfl rfl <|
      q_assign .n (.c rfl) rfl <|
      Lex.nil) ?_
  refine run_seq ?_
  refine run_seq ?_
  refine run_region (q_fld_ow .n (.t rfl) fo_39_0 rfl <|
      q_ld1_ow .n (.t rfl) rfl (.inr rfl) (fun _ => rfl) rfl ic_9 rfl <|
      q_fld_ow .n (.t rfl) fo_39_0 rfl <|
      q_ld1_ow .n (.t rfl) rfl (.inr rfl) (fun _ => rfl) rfl ic_9 rfl <|
      q_strcmp .n (.t rfl) (.t rfl) rfl rfl <|
      Lex.nil) ?_
  refine run_cond (.t rfl) rfl (fun h1 => ?_) (fun h1 => ?_)
  · try simp only [Bool.and_eq_true, Bool.or_eq_true, Bool.not_eq_true', Bool.and_eq_false_iff, Bool.or_eq_false_iff, Bool.not_eq_false', decide_eq_true_eq, decide_eq_false_iff_not, beq_iff_eq, bne_iff_ne, beq_eq_false_iff_ne, bne_eq_false_iff_eq, Bool.true_and, ne_eq, Decidable.not_not, Int.not_lt, Int.not_le, Nat.not_lt, Nat.not_le, strB_nil, strB_nil', strB_nnil, strB_nnil'] at h1
    refine run_seq ?_
    refine run_region (q_assign .n (.c rfl) rfl <|
        Lex.nil) ?_
    exact run_ret [] (.cons (.t rfl rfl) .nil) rfl trivial rfl
  · try simp only [Bool.and_eq_true, Bool.or_eq_true, Bool.not_eq_true', Bool.and_eq_false_iff, Bool.or_eq_false_iff, Bool.not_eq_false', decide_eq_true_eq, decide_eq_false_iff_not, beq_iff_eq, bne_iff_ne, beq_eq_false_iff_ne, bne_eq_false_iff_eq, Bool.true_and, ne_eq, Decidable.not_not, Int.not_lt, Int.not_le, Nat.not_lt, Nat.not_le, strB_nil, strB_nil', strB_nnil, strB_nnil'] at h1
    refine run_skip ?_
    refine run_seq ?_
    refine run_seq ?_
    refine run_region (q_fld_ow .n (.t rfl) fo_39_1 rfl <|
        q_ld1_ow .n (.t rfl) rfl (.inr rfl) (fun _ => rfl) rfl ic_2 rfl <|
        q_fld_ow .n (.t rfl) fo_39_1 rfl <|
        q_ld1_ow .n (.t rfl) rfl (.inr rfl) (fun _ => rfl) rfl ic_2 rfl <|
        q_int .n (.t rfl) (.t rfl) rfl rfl <|
        Lex.nil) ?_
    refine run_cond (.t rfl) rfl (fun h2 => ?_) (fun h2 => ?_)
    · try simp only [Bool.and_eq_true, Bool.or_eq_true, Bool.not_eq_true', Bool.and_eq_false_iff, Bool.or_eq_false_iff, Bool.not_eq_false', decide_eq_true_eq, decide_eq_false_iff_not, beq_iff_eq, bne_iff_ne, beq_eq_false_iff_ne, bne_eq_false_iff_eq, Bool.true_and, ne_eq, Decidable.not_not, Int.not_lt, Int.not_le, Nat.not_lt, Nat.not_le, strB_nil, strB_nil', strB_nnil, strB_nnil'] at h2
      refine run_seq ?_
      refine run_region (q_assign .n (.c rfl) rfl <|
          Lex.nil) ?_
      exact run_ret [] (.cons (.t rfl rfl) .nil) rfl trivial rfl
    · try simp only [Bool.and_eq_true, Bool.or_eq_true, Bool.not_eq_true', Bool.and_eq_false_iff, Bool.or_eq_false_iff, Bool.not_eq_false', decide_eq_true_eq, decide_eq_false_iff_not, beq_iff_eq, bne_iff_ne, beq_eq_false_iff_ne, bne_eq_false_iff_eq, Bool.true_and, ne_eq, Decidable.not_not, Int.not_lt, Int.not_le, Nat.not_lt, Nat.not_le, strB_nil, strB_nil', strB_nnil, strB_nnil'] at h2
      refine run_skip ?_
      refine run_seq ?_
      refine run_seq ?_
      refine run_region (q_fld_ow .n (.t rfl) fo_39_2 rfl <|
          q_ld1_ow .n (.t rfl) rfl (.inr rfl) (fun _ => rfl) rfl ic_2 rfl <|
          q_fld_ow .n (.t rfl) fo_39_2 rfl <|
          q_ld1_ow .n (.t rfl) rfl (.inr rfl) (fun _ => rfl) rfl ic_2 rfl <|
          q_int .n (.t rfl) (.t rfl) rfl rfl <|
          Lex.nil) ?_
      refine run_cond (.t rfl) rfl (fun h3 => ?_) (fun h3 => ?_)
      · try simp only [Bool.and_eq_true, Bool.or_eq_true, Bool.not_eq_true', Bool.and_eq_false_iff, Bool.or_eq_false_iff, Bool.not_eq_false', decide_eq_true_eq, decide_eq_false_iff_not, beq_iff_eq, bne_iff_ne, beq_eq_false_iff_ne, bne_eq_false_iff_eq, Bool.true_and, ne_eq, Decidable.not_not, Int.not_lt, Int.not_le, Nat.not_lt, Nat.not_le, strB_nil, strB_nil', strB_nnil, strB_nnil'] at h3
        refine run_seq ?_
        refine run_region (q_assign .n (.c rfl) rfl <|
            Lex.nil) ?_
        exact run_ret [] (.cons (.t rfl rfl) .nil) rfl trivial rfl
      · try simp only [Bool.and_eq_true, Bool.or_eq_true, Bool.not_eq_true', Bool.and_eq_false_iff, Bool.or_eq_false_iff, Bool.not_eq_false', decide_eq_true_eq, decide_eq_false_iff_not, beq_iff_eq, bne_iff_ne, beq_eq_false_iff_ne, bne_eq_false_iff_eq, Bool.true_and, ne_eq, Decidable.not_not, Int.not_lt, Int.not_le, Nat.not_lt, Nat.not_le, strB_nil, strB_nil', strB_nnil, strB_nnil'] at h3
        refine run_skip ?_
        refine run_seq ?_
        refine run_seq ?_
        refine run_region (q_fld_ow .n (.t rfl) fo_39_3 rfl <|
            q_ld1_ow .n (.t rfl) rfl (.inr rfl) (fun _ => rfl) rfl ic_2 rfl <|
            q_fld_ow .n (.t rfl) fo_39_3 rfl <|
            q_ld1_ow .n (.t rfl) rfl (.inr rfl) (fun _ => rfl) rfl ic_2 rfl <|
            q_int .n (.t rfl) (.t rfl) rfl rfl <|
            Lex.nil) ?_
        refine run_cond (.t rfl) rfl (fun h4 => ?_) (fun h4 => ?_)
        · try simp only [Bool.and_eq_true, Bool.or_eq_true, Bool.not_eq_true', Bool.and_eq_false_iff, Bool.or_eq_false_iff, Bool.not_eq_false', decide_eq_true_eq, decide_eq_false_iff_not, beq_iff_eq, bne_iff_ne, beq_eq_false_iff_ne, bne_eq_false_iff_eq, Bool.true_and, ne_eq, Decidable.not_not, Int.not_lt, Int.not_le, Nat.not_lt, Nat.not_le, strB_nil, strB_nil', strB_nnil, strB_nnil'] at h4
          refine run_seq ?_
          refine run_region (q_assign .n (.c rfl) rfl <|
              Lex.nil) ?_
          exact run_ret [] (.cons (.t rfl rfl) .nil) rfl trivial rfl
        · try simp only [Bool.and_eq_true, Bool.or_eq_true, Bool.not_eq_true', Bool.and_eq_false_iff, Bool.or_eq_false_iff, Bool.not_eq_false', decide_eq_true_eq, decide_eq_false_iff_not, beq_iff_eq, bne_iff_ne, beq_eq_false_iff_ne, bne_eq_false_iff_eq, Bool.true_and, ne_eq, Decidable.not_not, Int.not_lt, Int.not_le, Nat.not_lt, Nat.not_le, strB_nil, strB_nil', strB_nnil, strB_nnil'] at h4
          refine run_skip ?_
          refine run_seq ?_
          refine run_seq ?_
          refine run_region (q_fld_ow .n (.t rfl) fo_39_4 rfl <|
              q_ld1_ow .n (.t rfl) rfl (.inr rfl) (fun _ => rfl) rfl ic_2 rfl <|
              q_fld_ow .n (.t rfl) fo_39_4 rfl <|
              q_ld1_ow .n (.t rfl) rfl (.inr rfl) (fun _ => rfl) rfl ic_2 rfl <|
              q_int .n (.t rfl) (.t rfl) rfl rfl <|
              Lex.nil) ?_
          refine run_cond (.t rfl) rfl (fun h5 => ?_) (fun h5 => ?_)
          · try simp only [Bool.and_eq_true, Bool.or_eq_true, Bool.not_eq_true', Bool.and_eq_false_iff, Bool.or_eq_false_iff, Bool.not_eq_false', decide_eq_true_eq, decide_eq_false_iff_not, beq_iff_eq, bne_iff_ne, beq_eq_false_iff_ne, bne_eq_false_iff_eq, Bool.true_and, ne_eq, Decidable.not_not, Int.not_lt, Int.not_le, Nat.not_lt, Nat.not_le, strB_nil, strB_nil', strB_nnil, strB_nnil'] at h5
            refine run_seq ?_
            refine run_region (q_assign .n (.c rfl) rfl <|
                Lex.nil) ?_
            exact run_ret [] (.cons (.t rfl rfl) .nil) rfl trivial rfl
          · try simp only [Bool.and_eq_true, Bool.or_eq_true, Bool.not_eq_true', Bool.and_eq_false_iff, Bool.or_eq_false_iff, Bool.not_eq_false', decide_eq_true_eq, decide_eq_false_iff_not, beq_iff_eq, bne_iff_ne, beq_eq_false_iff_ne, bne_eq_false_iff_eq, Bool.true_and, ne_eq, Decidable.not_not, Int.not_lt, Int.not_le, Nat.not_lt, Nat.not_le, strB_nil, strB_nil', strB_nnil, strB_nnil'] at h5
            refine run_skip ?_
            refine run_seq ?_
            refine run_region (q_assign .n (.c rfl) rfl <|
                Lex.nil) ?_
            exact run_ret [] (.cons (.t rfl rfl) .nil) rfl trivial rfl


end Go.Proofs.YtceonolphigfdaaDoor
