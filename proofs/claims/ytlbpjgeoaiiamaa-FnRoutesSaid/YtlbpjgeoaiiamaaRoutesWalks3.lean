/-
  THE WALKS: each Go function computes its model. Conditions: as each theorem states them (hp1, hp2 ..).
-/
import Derived.Test.YtlbpjgeoaiiamaaRoutesWalks2
set_option linter.unusedVariables false
set_option linter.unusedSimpArgs false
set_option linter.unusedSectionVars false
set_option linter.unnecessarySimpa false
namespace Go.Proofs.Ytlbpjgeoaiiamaa
open Go Go.RowKit Go.Proofs Go.Proofs.Ytlbpjgeoaiiamaa.E
/-! ### math_bits_Mul64 -/
theorem c_math_bits_Mul64 (x_ : Int) (y : Int) : Con Try.prog 132 [.int .u64 x_, .int .u64 y] [] (.tup [.int .u64 (m_math_bits_Mul64 x_ y).1, .int .u64 (m_math_bits_Mul64 x_ y).2]) ([]) := by
  refine con_intro (out := fun r : Int × Int => ((.tup [.int .u64 r.1, .int .u64 r.2] : V), ([] : List (Nat × Option O)))) (r := (m_math_bits_Mul64 x_ y)) Try.func132 rfl Try.ntmps132 rfl ?_
  refine run_seq ?_
  refine run_region (q_assign .n (.c rfl) rfl <|
      q_assign .n (.c rfl) rfl <|
      Lex.nil) ?_
  refine run_seq ?_
  refine run_region (q_move .n (.t rfl) rfl <|
      q_int .n (.t rfl) (.c rfl) rfl rfl <|
      q_assign .n (.t rfl) rfl <|
      Lex.nil) ?_
  refine run_seq ?_
  refine run_region (q_move .n (.t rfl) rfl <|
      q_shr .n (.t rfl) (.c rfl) (fun _ => by omega) rfl <|
      q_assign .n (.t rfl) rfl <|
      Lex.nil) ?_
  refine run_seq ?_
  refine run_region (q_move .n (.t rfl) rfl <|
      q_int .n (.t rfl) (.c rfl) rfl rfl <|
      q_assign .n (.t rfl) rfl <|
      Lex.nil) ?_
  refine run_seq ?_
  refine run_region (q_move .n (.t rfl) rfl <|
      q_shr .n (.t rfl) (.c rfl) (fun _ => by omega) rfl <|
      q_assign .n (.t rfl) rfl <|
      Lex.nil) ?_
  refine run_seq ?_
  refine run_region (q_move .n (.t rfl) rfl <|
      q_move .n (.t rfl) rfl <|
      q_int .n (.t rfl) (.t rfl) rfl rfl <|
      q_assign .n (.t rfl) rfl <|
      Lex.nil) ?_
  refine run_seq ?_
  refine run_region (q_move .n (.t rfl) rfl <|
      q_move .n (.t rfl) rfl <|
      q_int .n (.t rfl) (.t rfl) rfl rfl <|
      q_move .n (.t rfl) rfl <|
      q_shr .n (.t rfl) (.c rfl) (fun _ => by omega) rfl <|
      q_int .n (.t rfl) (.t rfl) rfl rfl <|
      q_assign .n (.t rfl) rfl <|
      Lex.nil) ?_
  refine run_seq ?_
  refine run_region (q_move .n (.t rfl) rfl <|
      q_int .n (.t rfl) (.c rfl) rfl rfl <|
      q_assign .n (.t rfl) rfl <|
      Lex.nil) ?_
  refine run_seq ?_
  refine run_region (q_move .n (.t rfl) rfl <|
      q_shr .n (.t rfl) (.c rfl) (fun _ => by omega) rfl <|
      q_assign .n (.t rfl) rfl <|
      Lex.nil) ?_
  refine run_seq ?_
  refine run_region (q_move .n (.t rfl) rfl <|
      q_move .n (.t rfl) rfl <|
      q_move .n (.t rfl) rfl <|
      q_int .n (.t rfl) (.t rfl) rfl rfl <|
      q_int .n (.t rfl) (.t rfl) rfl rfl <|
      q_assign .n (.t rfl) rfl <|
      Lex.nil) ?_
  refine run_seq ?_
  refine run_region (q_move .n (.t rfl) rfl <|
      q_move .n (.t rfl) rfl <|
      q_int .n (.t rfl) (.t rfl) rfl rfl <|
      q_move .n (.t rfl) rfl <|
      q_int .n (.t rfl) (.t rfl) rfl rfl <|
      q_move .n (.t rfl) rfl <|
      q_shr .n (.t rfl) (.c rfl) (fun _ => by omega) rfl <|
      q_int .n (.t rfl) (.t rfl) rfl rfl <|
      q_assign .n (.t rfl) rfl <|
      Lex.nil) ?_
  refine run_seq ?_
  refine run_region (q_move .n (.t rfl) rfl <|
      q_move .n (.t rfl) rfl <|
      q_int .n (.t rfl) (.t rfl) rfl rfl <|
      q_assign .n (.t rfl) rfl <|
      Lex.nil) ?_
  exact run_ret [] (.cons (.t rfl rfl) (.cons (.t rfl rfl) .nil)) rfl trivial rfl

/-! ### math_bits_Mul -/
theorem c_math_bits_Mul (x_ : Int) (y : Int) : Con Try.prog 120 [.int .u64 x_, .int .u64 y] [] (.tup [.int .u64 (m_math_bits_Mul x_ y).1, .int .u64 (m_math_bits_Mul x_ y).2]) ([]) := by
  refine con_intro (out := fun r : Int × Int => ((.tup [.int .u64 r.1, .int .u64 r.2] : V), ([] : List (Nat × Option O)))) (r := (m_math_bits_Mul x_ y)) Try.func120 rfl Try.ntmps120 rfl ?_
  refine run_seq ?_
  refine run_region (q_assign .n (.c rfl) rfl <|
      q_assign .n (.c rfl) rfl <|
      Lex.nil) ?_
  refine run_seq ?_
  refine run_cond (.c rfl) rfl (fun h1 => ?_) (fun h1 => ?_)
  · try simp only [Bool.and_eq_true, Bool.or_eq_true, Bool.not_eq_true', Bool.and_eq_false_iff, Bool.or_eq_false_iff, Bool.not_eq_false', decide_eq_true_eq, decide_eq_false_iff_not, beq_iff_eq, bne_iff_ne, beq_eq_false_iff_ne, bne_eq_false_iff_eq, Bool.true_and, ne_eq, Decidable.not_not, Int.not_lt, Int.not_le, Nat.not_lt, Nat.not_le, strB_nil, strB_nil', strB_nnil, strB_nnil'] at h1
    refine run_seq ?_
    refine run_region (q_move .n (.t rfl) rfl <|
        q_conv .n (.t rfl) cv_150_163 rfl <|
        q_move .n (.t rfl) rfl <|
        q_conv .n (.t rfl) cv_150_163 rfl <|
        q_call0 (full := false) .n .f en_131 (.cons (.t rfl) (.cons (.t rfl) .nil)) (.cons (.b (.a (.same rfl))) (.cons (.b (.a (.same rfl))) .nil)) (fun hg => c_math_bits_Mul32 (IntKind.wrap .u32 x_) (IntKind.wrap .u32 y)) rfl (fun h => Bool.noConfusion h) rfl <|
        q_move .n (.t rfl) rfl <|
        q_ext .n (.t rfl) rfl rfl rfl <|
        q_ext .n (.t rfl) rfl rfl rfl <|
        q_assign .n (.t rfl) rfl <|
        q_assign .n (.t rfl) rfl <|
        Lex.nil) ?_
    refine run_seq ?_
    refine run_region (q_move .n (.t rfl) rfl <|
        q_conv .n (.t rfl) cv_163_150 rfl <|
        q_move .n (.t rfl) rfl <|
        q_conv .n (.t rfl) cv_163_150 rfl <|
        q_assign .n (.t rfl) rfl <|
        q_assign .n (.t rfl) rfl <|
        Lex.nil) ?_
    exact run_ret [] (.cons (.t rfl rfl) (.cons (.t rfl rfl) .nil)) rfl trivial rfl
  · try simp only [Bool.and_eq_true, Bool.or_eq_true, Bool.not_eq_true', Bool.and_eq_false_iff, Bool.or_eq_false_iff, Bool.not_eq_false', decide_eq_true_eq, decide_eq_false_iff_not, beq_iff_eq, bne_iff_ne, beq_eq_false_iff_ne, bne_eq_false_iff_eq, Bool.true_and, ne_eq, Decidable.not_not, Int.not_lt, Int.not_le, Nat.not_lt, Nat.not_le, strB_nil, strB_nil', strB_nnil, strB_nnil'] at h1
    refine run_skip ?_
    refine run_seq ?_
    refine run_region (q_move .n (.t rfl) rfl <|
        q_move .n (.t rfl) rfl <|
        q_call0 (full := false) .n .f en_132 (.cons (.t rfl) (.cons (.t rfl) .nil)) (.cons (.b (.a (.same rfl))) (.cons (.b (.a (.same rfl))) .nil)) (fun hg => c_math_bits_Mul64 x_ y) rfl (fun h => Bool.noConfusion h) rfl <|
        q_move .n (.t rfl) rfl <|
        q_ext .n (.t rfl) rfl rfl rfl <|
        q_ext .n (.t rfl) rfl rfl rfl <|
        q_assign .n (.t rfl) rfl <|
        q_assign .n (.t rfl) rfl <|
        Lex.nil) ?_
    refine run_seq ?_
    refine run_region (q_move .n (.t rfl) rfl <|
        q_move .n (.t rfl) rfl <|
        q_assign .n (.t rfl) rfl <|
        q_assign .n (.t rfl) rfl <|
        Lex.nil) ?_
    exact run_ret [] (.cons (.t rfl rfl) (.cons (.t rfl rfl) .nil)) rfl trivial rfl

/-! ### slices_Repeat_int64 -/
theorem c_slices_Repeat_int64 (x_ : List Int) (count : Int) (hp1 : x_.length = 1) (hp2 : 1 ≤ count ∧ count ≤ 16) : Con Try.prog 79 [.sl 1 (x_.map (V.int .i64)), .int .i64 count] [] (.os 100 (m_slices_Repeat_int64 x_ count).length) ([(100, some (.row 2 1 ((m_slices_Repeat_int64 x_ count).map (V.int .i64))))]) := by
  refine con_intro (out := fun r : (List Int) => ((.os 100 r.length : V), ([(100, some (.row 2 1 (r.map (V.int .i64))))] : List (Nat × Option O)))) (r := (m_slices_Repeat_int64 x_ count)) Try.func79 rfl Try.ntmps79 rfl ?_
  have hM := mul_rep (n := (x_.length : Int)) (c := count) (by omega) hp2
  have hW := wr64 (n := count) (by omega)
  refine run_fact (t := 0) rfl fun hl => ?_
  have l1 := hl; clear hl; simp only [List.length_map] at l1
  refine run_seq ?_
  refine run_region (q_assign .n (.c rfl) rfl <|
      Lex.nil) ?_
  refine run_seq ?_
  refine run_seq ?_
  refine run_region (q_move .n (.t rfl) rfl <|
      q_int .n (.t rfl) (.c rfl) rfl rfl <|
      Lex.nil) ?_
  refine run_if (.t rfl) (fun h2 => ?_) (fun h2 => ?_)
  · try simp only [Bool.and_eq_true, Bool.or_eq_true, Bool.not_eq_true', Bool.and_eq_false_iff, Bool.or_eq_false_iff, Bool.not_eq_false', decide_eq_true_eq, decide_eq_false_iff_not, beq_iff_eq, bne_iff_ne, beq_eq_false_iff_ne, bne_eq_false_iff_eq, Bool.true_and, ne_eq, Decidable.not_not, Int.not_lt, Int.not_le, Nat.not_lt, Nat.not_le, strB_nil, strB_nil', strB_nnil, strB_nnil'] at h2
    exfalso; omega
  · try simp only [Bool.and_eq_true, Bool.or_eq_true, Bool.not_eq_true', Bool.and_eq_false_iff, Bool.or_eq_false_iff, Bool.not_eq_false', decide_eq_true_eq, decide_eq_false_iff_not, beq_iff_eq, bne_iff_ne, beq_eq_false_iff_ne, bne_eq_false_iff_eq, Bool.true_and, ne_eq, Decidable.not_not, Int.not_lt, Int.not_le, Nat.not_lt, Nat.not_le, strB_nil, strB_nil', strB_nnil, strB_nnil'] at h2
    refine run_skip ?_
    refine run_seq ?_
    refine run_region (q_move .n (.t rfl) rfl <|
        q_len .n (.t rfl) rfl len_map ss_28 rfl <|
        q_conv .n (.t rfl) cv_3_150 rfl <|
        q_move .n (.t rfl) rfl <|
        q_conv .n (.t rfl) cv_3_150 rfl <|
        q_call0 (full := false) .n .f en_120 (.cons (.t rfl) (.cons (.t rfl) .nil)) (.cons (.b (.a (.same rfl))) (.cons (.b (.a (.same rfl))) .nil)) (fun hg => c_math_bits_Mul (IntKind.wrap .u64 (x_.length : Int)) (IntKind.wrap .u64 count)) rfl (fun h => Bool.noConfusion h) rfl <|
        q_move .n (.t rfl) rfl <|
        q_ext .n (.t rfl) rfl rfl rfl <|
        q_ext .n (.t rfl) rfl rfl rfl <|
        q_assign .n (.t rfl) rfl <|
        q_assign .n (.t rfl) rfl <|
        Lex.nil) ?_
    refine run_seq ?_
    refine run_seq ?_
    refine run_region (q_move .n (.t rfl) rfl <|
        q_int .n (.t rfl) (.c rfl) rfl rfl <|
        q_move .n (.t rfl) rfl <|
        q_move (.f rfl rfl) (.t rfl) rfl <|
        q_int (.f rfl rfl) (.u rfl id) (.c rfl) rfl rfl <|
        q_or .n (.t rfl) (.u rfl id) rfl <|
        Lex.nil) ?_
    refine run_if (.t rfl) (fun h3 => ?_) (fun h3 => ?_)
    · try simp only [Bool.and_eq_true, Bool.or_eq_true, Bool.not_eq_true', Bool.and_eq_false_iff, Bool.or_eq_false_iff, Bool.not_eq_false', decide_eq_true_eq, decide_eq_false_iff_not, beq_iff_eq, bne_iff_ne, beq_eq_false_iff_ne, bne_eq_false_iff_eq, Bool.true_and, ne_eq, Decidable.not_not, Int.not_lt, Int.not_le, Nat.not_lt, Nat.not_le, strB_nil, strB_nil', strB_nnil, strB_nnil'] at h3
      exfalso; ((simp only [hM, hW, List.length_replicate] at *; omega))
    · try simp only [Bool.and_eq_true, Bool.or_eq_true, Bool.not_eq_true', Bool.and_eq_false_iff, Bool.or_eq_false_iff, Bool.not_eq_false', decide_eq_true_eq, decide_eq_false_iff_not, beq_iff_eq, bne_iff_ne, beq_eq_false_iff_ne, bne_eq_false_iff_eq, Bool.true_and, ne_eq, Decidable.not_not, Int.not_lt, Int.not_le, Nat.not_lt, Nat.not_le, strB_nil, strB_nil', strB_nnil, strB_nnil'] at h3
      refine run_skip ?_
      refine run_seq ?_
      refine run_region (q_move .n (.t rfl) rfl <|
          q_conv .n (.t rfl) cv_150_3 rfl <|
          q_makem (f := V.int .i64) (l := 200) (0 : Int) .n rfl (.t rfl) (.t rfl) si_28 zv_2 (by ((simp only [hM, hW, List.length_replicate] at *; omega))) rfl rfl rfl <|
          q_assign .n (.t rfl) rfl <|
          Lex.nil) ?_
      refine run_seq ?_
      refine run_region (q_move .n (.t rfl) rfl <|
          q_move .n (.t rfl) rfl <|
          q_copym (ys := x_) (off := 0) (m := (List.replicate (IntKind.wrap .i64 (m_math_bits_Mul (IntKind.wrap .u64 (x_.length : Int)) (IntKind.wrap .u64 count)).2 : Int).toNat (0 : Int)).length) .n rfl (.os (.t rfl)) rfl (by omega) (.ro (.t rfl)) sl_28 rfl rfl <|
          q_assign .n (.t rfl) rfl <|
          Lex.nil) ?_
      refine run_seq ?_
      refine run_block ?_
      refine run_LOOP (m_slices_Repeat_int64_b1 x_ count) _ _ _ rfl (fun (x1 : (List Int) × Int) => (x1.1.length : Int) = count ∧ 1 ≤ x1.2 ∧ x1.2 ≤ count) (fun x1 => (x1.1.length : Int) = count ∧ 1 ≤ x1.2 ∧ x1.2 ≤ count) (fun x1 => (count - x1.2 : Int).toNat) (fun x1 => ⟨[(7, some (true, .os 200 x1.1.length)), (8, some (true, .int .i64 x1.2))], [(200, some (.row 2 1 (x1.1.map (V.int .i64))))]⟩) (fun x1 => ⟨[(7, some (true, .os 200 x1.1.length))], [(200, some (.row 2 1 (x1.1.map (V.int .i64))))]⟩) ⟨by ((dsimp only; rw [cpy_len (by simp only [List.length_take, List.length_replicate, hM, hW] at *; omega)]; simp only [List.length_replicate, hM, hW]; omega)), by ((simp only [hM, hW, List.length_replicate] at *; omega))⟩ (by omega) (sub_of [] ⟨os_len rfl (by first | (simp only [put_len]; done) | (((rw [cpy_len (by simp only [List.length_take] at *; omega)]; done)))), rfl, trivial⟩ ⟨rfl, trivial⟩ rfl) ?_ ?_
      · intro x1 i7
        obtain ⟨e8, e9⟩ := i7
        try dsimp only at *
        refine run_seq ?_
        refine run_region (q_move .n (.t rfl) rfl <|
            q_assign .n (.t rfl) rfl <|
            Lex.nil) ?_
        exact run_ret [(100, 200)] (.cons (.t rfl rfl) .nil) (by first | rfl | (simp only [put_len]; rfl)) ⟨rfl, trivial⟩ rfl
      · intro rec1 k1 hk4 x1 i5
        obtain ⟨e10, e11⟩ := i5
        try dsimp only at *
        refine run_seq ?_
        refine run_seq ?_
        refine run_region (q_move .n (.t rfl) rfl <|
            q_move .n (.t rfl) rfl <|
            q_len .n (.t rfl) rfl rfl ss_28 rfl <|
            q_int .n (.t rfl) (.t rfl) rfl rfl <|
            Lex.nil) ?_
        refine run_cond (.t rfl) rfl (fun h6 => ?_) (fun h6 => ?_)
        · try simp only [Bool.and_eq_true, Bool.or_eq_true, Bool.not_eq_true', Bool.and_eq_false_iff, Bool.or_eq_false_iff, Bool.not_eq_false', decide_eq_true_eq, decide_eq_false_iff_not, beq_iff_eq, bne_iff_ne, beq_eq_false_iff_ne, bne_eq_false_iff_eq, Bool.true_and, ne_eq, Decidable.not_not, Int.not_lt, Int.not_le, Nat.not_lt, Nat.not_le, strB_nil, strB_nil', strB_nnil, strB_nnil'] at h6
          refine run_skip ?_
          refine run_block ?_
          refine run_draw fmo (q_move .n (.t rfl) rfl <|
              q_move .n (.t rfl) rfl <|
              q_move .n (.t rfl) rfl <|
              q_cut_oss (x1.1.length : Int) .n (.t rfl) (.s (.t rfl)) .n sl_28 rfl (fun _ => by omega) rfl <|
              q_move .n (.t rfl) rfl <|
              q_move .n (.t rfl) rfl <|
              q_cut_owm (xs := x1.1) (b := x1.2) .n (.t rfl) (.s (.t rfl)) sl_28 (fun _ => by omega) rfl <|
              q_copym (ys := pre' x1.1 x1.2) (off := x1.2.toNat) (m := ((x1.1.length : Int).toNat - x1.2.toNat)) .n rfl (.oss (.t rfl)) rfl (by omega) (.ow (.t rfl) rfl pre_map (by simp only [len_map, pre_len])) sl_28 rfl rfl <|
              q_int .n (.t rfl) (.t rfl) rfl rfl <|
              q_assign .n (.t rfl) rfl <|
              Lex.nil) (by kernel_rfl) ?_
          refine run_endB ?_
          exact run_again (cpy x1.1 (x1.2.toNat) ((pre' x1.1 x1.2).take (min (pre' x1.1 x1.2).length ((x1.1.length : Int).toNat - x1.2.toNat))), IntKind.wrap .i64 (x1.2 + (((min (pre' x1.1 x1.2).length ((x1.1.length : Int).toNat - x1.2.toNat)) : Nat) : Int))) ⟨by ((have hq := rep_step (by assumption) (by assumption) hp2.2 (by assumption); dsimp only at hq ⊢; omega)), by ((have hq := rep_step (by assumption) (by assumption) hp2.2 (by assumption); dsimp only at hq ⊢; omega))⟩ (by ((have hq := rep_step (by assumption) (by assumption) hp2.2 (by assumption); dsimp only at hq ⊢; omega))) (sub_of [] ⟨os_len rfl (by first | (simp only [put_len]; done) | (((have hq := rep_step (by assumption) (by assumption) hp2.2 (by assumption); dsimp only at hq ⊢; omega)))), rfl, trivial⟩ ⟨rfl, trivial⟩ rfl)
        · try simp only [Bool.and_eq_true, Bool.or_eq_true, Bool.not_eq_true', Bool.and_eq_false_iff, Bool.or_eq_false_iff, Bool.not_eq_false', decide_eq_true_eq, decide_eq_false_iff_not, beq_iff_eq, bne_iff_ne, beq_eq_false_iff_ne, bne_eq_false_iff_eq, Bool.true_and, ne_eq, Decidable.not_not, Int.not_lt, Int.not_le, Nat.not_lt, Nat.not_le, strB_nil, strB_nil', strB_nnil, strB_nnil'] at h6
          refine run_exit rfl ?_
          exact run_cont hk4 (x1.1, x1.2) ⟨by omega, by omega⟩ (sub_of [] ⟨rfl, trivial⟩ ⟨rfl, trivial⟩ rfl)

/-! ### impl_escape_mayBe -/
theorem c_impl_escape_mayBe (e : gescape) (junction : Int) (second : Int) (hp1 : 0 ≤ junction ∧ junction < e.arrivals.length) : Con Try.prog 80 [.st [.int .i64 e.mine.Junctions, .sl 7 (e.mine.Airways.map gAirway.v), .sl 1 (e.arrivals.map (V.int .i64)), .int .i64 e.blocked], .int .i64 junction, .int .i64 second] [] (.bool (m_impl_escape_mayBe e junction second)) ([]) := by
  refine con_intro (out := fun r : Bool => ((.bool r : V), ([] : List (Nat × Option O)))) (r := (m_impl_escape_mayBe e junction second)) Try.func80 rfl Try.ntmps80 rfl ?_
  refine run_factS (t := 0) 1 rfl rfl fun hl => ?_
  have l1 := hl; clear hl; simp only [List.length_map] at l1
  refine run_factS (t := 0) 2 rfl rfl fun hl => ?_
  have l2 := hl; clear hl; simp only [List.length_map] at l2
  refine run_seq ?_
  refine run_region (q_box (l := 200) .n rfl (.t rfl) rfl rfl rfl rfl <|
      q_assign .n (.c rfl) rfl <|
      Lex.nil) ?_
  refine run_seq ?_
  refine run_region (q_fld_ow .n (.t rfl) fo_75_1 rfl <|
      q_ld1_ow .n (.t rfl) rfl (.inr rfl) (fun _ => rfl) rfl ic_28 rfl <|
      q_move .n (.t rfl) rfl <|
      q_idx_rm .n (.t rfl) (.t rfl) sl_28 (fun _ => by omega) rfl <|
      q_ld1_ro .n (.t rfl) rfl ic_2 rfl <|
      q_int .n (.t rfl) (.c rfl) rfl rfl <|
      q_move .n (.t rfl) rfl <|
      q_fld_ow (.f rfl rfl) (.t rfl) fo_75_1 rfl <|
      q_ld1_ow (.f rfl rfl) (.u rfl id) rfl (.inr rfl) (fun _ => rfl) rfl ic_28 rfl <|
      q_move (.f rfl rfl) (.t rfl) rfl <|
      q_idx_rm (.f rfl rfl) (.u rfl id) (.u rfl id) sl_28 (fun hg => by simp only [Bool.and_eq_true, Bool.or_eq_true, Bool.not_eq_true', Bool.and_eq_false_iff, Bool.or_eq_false_iff, Bool.not_eq_false', decide_eq_true_eq, decide_eq_false_iff_not, beq_iff_eq, bne_iff_ne, beq_eq_false_iff_ne, bne_eq_false_iff_eq, Bool.true_and, ne_eq, Decidable.not_not, Int.not_lt, Int.not_le, Nat.not_lt, Nat.not_le, strB_nil, strB_nil', strB_nnil, strB_nnil'] at hg; omega) rfl <|
      q_ld1_ro (.f rfl rfl) (.u rfl id) rfl ic_2 rfl <|
      q_move (.f rfl rfl) (.t rfl) rfl <|
      q_int (.f rfl rfl) (.u rfl id) (.u rfl id) rfl rfl <|
      q_or .n (.t rfl) (.u rfl id) rfl <|
      q_assign .n (.t rfl) rfl <|
      Lex.nil) ?_
  exact run_ret [] (.cons (.t rfl rfl) .nil) rfl trivial rfl

/-! ### impl_escape_times -/
set_option maxHeartbeats 4000000 in
theorem c_impl_escape_times (e : gescape) (c_ : gCrew) (start : Int) (hp1 : MineIn e.mine) (hp2 : (e.arrivals.length : Int) = e.mine.Junctions) (hp3 : CrewIn e.mine c_) (hp4 : 0 ≤ start ∧ start ≤ 36000) : Con Try.prog 37 [.st [.int .i64 e.mine.Junctions, .sl 7 (e.mine.Airways.map gAirway.v), .sl 1 (e.arrivals.map (V.int .i64)), .int .i64 e.blocked], .st [.str c_.Id, .int .i64 c_.Junction, .int .i64 c_.Speed], .int .i64 start] [] (.os 100 (m_impl_escape_times e c_ start).length) ([(100, some (.row 2 1 ((m_impl_escape_times e c_ start).map (V.int .i64))))]) := by
  refine con_intro (out := fun r : (List Int) => ((.os 100 r.length : V), ([(100, some (.row 2 1 (r.map (V.int .i64))))] : List (Nat × Option O)))) (r := (m_impl_escape_times e c_ start)) Try.func37 rfl Try.ntmps37 rfl ?_
  have hRl := rep_len hp1.1
  have hJ := hp1.1
  have hA := hp1.2.1
  have hC1 := hp3.1
  have hC2 := hp3.2
  have hJ1 := hp1.1
  have hA1 := hp1.2.1
  refine run_factS (t := 0) 1 rfl rfl fun hl => ?_
  have l1 := hl; clear hl; simp only [List.length_map] at l1
  refine run_factS (t := 0) 2 rfl rfl fun hl => ?_
  have l2 := hl; clear hl; simp only [List.length_map] at l2
  refine run_seq ?_
  refine run_region (q_box (l := 200) .n rfl (.t rfl) rfl rfl rfl rfl <|
      q_box (l := 201) .n rfl (.t rfl) rfl rfl rfl rfl <|
      q_assign .n (.c rfl) rfl <|
      Lex.nil) ?_
  refine run_seq ?_
  refine run_region (q_bslicem ([(-1)] : List Int) (f := V.int .i64) (l := 202) .n rfl rfl (.cons (.c rfl) .nil) rfl si_28 zv_2 rfl rfl rfl <|
      q_fld_ow .n (.t rfl) fo_75_0 rfl <|
      q_fld_ow .n (.t rfl) fo_26_0 rfl <|
      q_ld1_ow .n (.t rfl) rfl (.inr rfl) (fun _ => rfl) rfl ic_2 rfl <|
      q_callM (full := true) [] [(100, 203)] .n rfl .f en_79 (.cons (.t rfl) (.cons (.t rfl) .nil)) (.cons (.b (.a (.own rfl rfl rfl (take_all (by simp only [len_map, put_len] <;> rfl)) (by simp only [len_map, put_len] <;> rfl)))) (.cons (.b (.a (.same rfl))) .nil)) (c_slices_Repeat_int64 ([(-1)] : List Int) e.mine.Junctions (by (simp only [List.length_append, List.length_cons, List.length_nil, List.length_replicate, put_len] at * <;> omega)) (by omega)) trivial rfl rfl (fun _ => rfl) (fun _ => (hr_row (fun _ => rfl) hr_nil)) rfl <|
      q_assign .n (.t rfl) rfl <|
      Lex.nil) ?_
  refine run_seq ?_
  refine run_seq ?_
  refine run_region (q_ldN_ow .n (.t rfl) rfl (.inr rfl) ag_75 (fun _ => rfl) rfl rfl <|
      q_fld_ow .n (.t rfl) fo_34_1 rfl <|
      q_ld1_ow .n (.t rfl) rfl (.inr rfl) (fun _ => rfl) rfl ic_2 rfl <|
      q_move .n (.t rfl) rfl <|
      q_call0 (full := false) .n .f en_80 (.cons (.t rfl) (.cons (.t rfl) (.cons (.t rfl) .nil))) (.cons (.sts rfl) (.cons (.b (.a (.same rfl))) (.cons (.b (.a (.same rfl))) .nil))) (fun hg => c_impl_escape_mayBe e c_.Junction start (by omega)) rfl (fun h => Bool.noConfusion h) rfl <|
      q_not .n (.t rfl) rfl <|
      Lex.nil) ?_
  refine run_cond (.t rfl) rfl (fun h3 => ?_) (fun h3 => ?_)
  · try simp only [Bool.and_eq_true, Bool.or_eq_true, Bool.not_eq_true', Bool.and_eq_false_iff, Bool.or_eq_false_iff, Bool.not_eq_false', decide_eq_true_eq, decide_eq_false_iff_not, beq_iff_eq, bne_iff_ne, beq_eq_false_iff_ne, bne_eq_false_iff_eq, Bool.true_and, ne_eq, Decidable.not_not, Int.not_lt, Int.not_le, Nat.not_lt, Nat.not_le, strB_nil, strB_nil', strB_nnil, strB_nnil'] at h3
    refine run_seq ?_
    refine run_region (q_move .n (.t rfl) rfl <|
        q_assign .n (.t rfl) rfl <|
        Lex.nil) ?_
    exact run_ret [(100, 203)] (.cons (.t rfl rfl) .nil) (by first | rfl | (simp only [put_len]; rfl)) ⟨rfl, trivial⟩ rfl
  · try simp only [Bool.and_eq_true, Bool.or_eq_true, Bool.not_eq_true', Bool.and_eq_false_iff, Bool.or_eq_false_iff, Bool.not_eq_false', decide_eq_true_eq, decide_eq_false_iff_not, beq_iff_eq, bne_iff_ne, beq_eq_false_iff_ne, bne_eq_false_iff_eq, Bool.true_and, ne_eq, Decidable.not_not, Int.not_lt, Int.not_le, Nat.not_lt, Nat.not_le, strB_nil, strB_nil', strB_nnil, strB_nnil'] at h3
    refine run_skip ?_
    refine run_seq ?_
    refine run_region (q_move .n (.t rfl) rfl <|
        q_fld_ow .n (.t rfl) fo_34_1 rfl <|
        q_ld1_ow .n (.t rfl) rfl (.inr rfl) (fun _ => rfl) rfl ic_2 rfl <|
        q_move .n (.t rfl) rfl <|
        q_idx_ow .n (.t rfl) (.t rfl) sl_28 (fun _ => by omega) rfl <|
        q_st_rowm start .n rfl (.t rfl) (.t rfl) rfl ts_2 (by omega) rfl rfl <|
        Lex.nil) ?_
    refine run_seq ?_
    refine run_seq ?_
    refine run_region (q_assign .n (.c rfl) rfl <|
        Lex.nil) ?_
    refine run_block ?_
    refine run_LOOP (m_impl_escape_times_b1 e c_ start) _ _ _ rfl (fun (x1 : (List Int) × Bool) => SmB e.mine.Junctions x1.1) (fun x1 => SmB e.mine.Junctions x1.1) (fun x1 => pot x1.1 + (bif x1.2 then 1 else 0)) (fun x1 => ⟨[(3, some (true, .op 200 0 0 0)), (4, some (true, .op 201 0 0 0)), (7, some (true, .os 203 x1.1.length)), (8, some (true, .bool x1.2))], [(200, some (.box 75 [.int .i64 e.mine.Junctions, .sl 7 (e.mine.Airways.map gAirway.v), .sl 1 (e.arrivals.map (V.int .i64)), .int .i64 e.blocked])), (201, some (.box 34 [.str c_.Id, .int .i64 c_.Junction, .int .i64 c_.Speed])), (203, some (.row 2 1 (x1.1.map (V.int .i64))))]⟩) (fun x1 => ⟨[(7, some (true, .os 203 x1.1.length))], [(203, some (.row 2 1 (x1.1.map (V.int .i64))))]⟩) (by (exact cw_start hp1 hp3 hp4)) (by (exact cw_pot hp1 hp3 hp4)) (sub_of [] ⟨rfl, rfl, os_len rfl (by first | (simp only [put_len]; done) | (first | omega | assumption | (simp only [List.length_append, List.length_cons, List.length_nil, List.length_replicate, put_len] at * <;> omega) | ((exact cw_start hp1 hp3 hp4); done) | ((exact cw_pot hp1 hp3 hp4); done) | ((exact SmI.refl (by assumption)); done) | ((exact SmI.mu (by assumption) (by assumption)); done) | ((exact And.left (by assumption)); done) | (((have hS : SmI e.mine.Junctions x1.1 x3.1 x3.2.1 := (by assumption); have hl := hS.1.1; have hw0 := hp1.at (i := x2.2.2) (by omega); unfold AirIn at hw0; have hw1 := at2 hw0 (q := x3.2.2) (by omega); omega)); done) | (((have hS : SmI e.mine.Junctions x1.1 x3.1 x3.2.1 := (by assumption); have hl := hS.1.1; exact times_put hp1 hp3.2 hS (by omega) (by omega) (by assumption))); done))), rfl, trivial⟩ ⟨rfl, rfl, rfl, trivial⟩ rfl) ?_ ?_
    · intro x1 i32
      have e33 := i32
      try dsimp only at *
      refine run_seq ?_
      refine run_region (q_move .n (.t rfl) rfl <|
          q_assign .n (.t rfl) rfl <|
          Lex.nil) ?_
      exact run_ret [(100, 203)] (.cons (.t rfl rfl) .nil) (by first | rfl | (simp only [put_len]; rfl)) ⟨rfl, trivial⟩ rfl
    · intro rec1 k1 hk4 x1 i5
      have e34 := i5
      try dsimp only at *
      refine run_seq ?_
      refine run_seq ?_
      refine run_region (q_move .n (.t rfl) rfl <|
          Lex.nil) ?_
      refine run_cond (.t rfl) rfl (fun h6 => ?_) (fun h6 => ?_)
      · try simp only [Bool.and_eq_true, Bool.or_eq_true, Bool.not_eq_true', Bool.and_eq_false_iff, Bool.or_eq_false_iff, Bool.not_eq_false', decide_eq_true_eq, decide_eq_false_iff_not, beq_iff_eq, bne_iff_ne, beq_eq_false_iff_ne, bne_eq_false_iff_eq, Bool.true_and, ne_eq, Decidable.not_not, Int.not_lt, Int.not_le, Nat.not_lt, Nat.not_le, strB_nil, strB_nil', strB_nnil, strB_nnil'] at h6
        refine run_skip ?_
        refine run_block ?_
        refine run_seq ?_
        refine run_region (q_assign .n (.c rfl) rfl <|
            Lex.nil) ?_
        refine run_seq ?_
        refine run_region (q_fld_ow .n (.t rfl) fo_75_0 rfl <|
            q_fld_ow .n (.t rfl) fo_26_1 rfl <|
            q_ld1_ow .n (.t rfl) rfl (.inr rfl) (fun _ => rfl) rfl ic_24 rfl <|
            q_len .n (.t rfl) rfl len_map ss_24 rfl <|
            q_move .n (.c rfl) rfl <|
            Lex.nil) ?_
        refine run_block ?_
        refine run_LOOP (m_impl_escape_times_b2 e c_ start rec1 k1 x1) _ _ _ rfl (fun (x2 : (List Int) × Bool × Int) => 0 ≤ x2.2.2 ∧ x2.2.2 ≤ (e.mine.Airways.length : Int) ∧ SmI e.mine.Junctions x1.1 x2.1 x2.2.1) (fun x2 => 0 ≤ x2.2.2 ∧ x2.2.2 ≤ (e.mine.Airways.length : Int) ∧ SmI e.mine.Junctions x1.1 x2.1 x2.2.1 ∧ (e.mine.Airways.length : Int) ≤ x2.2.2) (fun x2 => ((e.mine.Airways.length : Int) - x2.2.2 : Int).toNat) (fun x2 => ⟨[(3, some (true, .op 200 0 0 0)), (4, some (true, .op 201 0 0 0)), (7, some (true, .os 203 x2.1.length)), (8, some (true, .bool x2.2.1)), (35, some (true, .sl 7 (e.mine.Airways.map gAirway.v))), (36, some (true, .int .i64 (e.mine.Airways.length : Int))), (37, some (true, .int .i64 x2.2.2))], [(200, some (.box 75 [.int .i64 e.mine.Junctions, .sl 7 (e.mine.Airways.map gAirway.v), .sl 1 (e.arrivals.map (V.int .i64)), .int .i64 e.blocked])), (201, some (.box 34 [.str c_.Id, .int .i64 c_.Junction, .int .i64 c_.Speed])), (203, some (.row 2 1 (x2.1.map (V.int .i64))))]⟩) (fun x2 => ⟨[(3, some (true, .op 200 0 0 0)), (4, some (true, .op 201 0 0 0)), (7, some (true, .os 203 x2.1.length)), (8, some (true, .bool x2.2.1))], [(200, some (.box 75 [.int .i64 e.mine.Junctions, .sl 7 (e.mine.Airways.map gAirway.v), .sl 1 (e.arrivals.map (V.int .i64)), .int .i64 e.blocked])), (201, some (.box 34 [.str c_.Id, .int .i64 c_.Junction, .int .i64 c_.Speed])), (203, some (.row 2 1 (x2.1.map (V.int .i64))))]⟩) ⟨by (simp only [List.length_append, List.length_cons, List.length_nil, List.length_replicate, put_len] at * <;> omega), by (simp only [List.length_append, List.length_cons, List.length_nil, List.length_replicate, put_len] at * <;> omega), by (exact SmI.refl (by assumption))⟩ (by (simp only [List.length_append, List.length_cons, List.length_nil, List.length_replicate, put_len] at * <;> omega)) (sub_of [] ⟨rfl, rfl, rfl, rfl, rfl, rfl, rfl, trivial⟩ ⟨rfl, rfl, rfl, trivial⟩ rfl) ?_ ?_
        · intro x2 i24
          obtain ⟨e25, e26, e27, e28⟩ := i24
          try dsimp only at *
          refine run_endB ?_
          exact run_again (x2.1, x2.2.1) (by (exact And.left (by assumption))) (by (exact SmI.mu (by assumption) (by assumption))) (sub_of [] ⟨rfl, rfl, rfl, rfl, trivial⟩ ⟨rfl, rfl, rfl, trivial⟩ rfl)
        · intro rec2 k2 hk7 x2 i8
          obtain ⟨e29, e30, e31⟩ := i8
          try dsimp only at *
          refine run_seq ?_
          refine run_region (q_int .n (.t rfl) (.t rfl) rfl rfl <|
              Lex.nil) ?_
          refine run_seq ?_
          refine run_cond (.t rfl) rfl (fun h9 => ?_) (fun h9 => ?_)
          · try simp only [Bool.and_eq_true, Bool.or_eq_true, Bool.not_eq_true', Bool.and_eq_false_iff, Bool.or_eq_false_iff, Bool.not_eq_false', decide_eq_true_eq, decide_eq_false_iff_not, beq_iff_eq, bne_iff_ne, beq_eq_false_iff_ne, bne_eq_false_iff_eq, Bool.true_and, ne_eq, Decidable.not_not, Int.not_lt, Int.not_le, Nat.not_lt, Nat.not_le, strB_nil, strB_nil', strB_nnil, strB_nnil'] at h9
            refine run_skip ?_
            refine run_seq ?_
            refine run_block ?_
            refine run_seq ?_
            refine run_region (q_move .n (.t rfl) rfl <|
                q_idx_rm .n (.t rfl) (.t rfl) sl_24 (fun _ => by omega) rfl <|
                q_ldN_ro .n (.t rfl) ag_46 rfl rfl rfl <|
                q_alloc (l := 204) .n rfl zv_46 rfl rfl <|
                q_assign .n (.t rfl) rfl <|
                q_st_boxm [.str (at' e.mine.Airways x2.2.2).Id, .int .i64 (at' e.mine.Airways x2.2.2).From, .int .i64 (at' e.mine.Airways x2.2.2).To, .int .i64 (at' e.mine.Airways x2.2.2).Length, .int .i64 (at' e.mine.Airways x2.2.2).Section, .int .i64 (at' e.mine.Airways x2.2.2).Friction, .int .i64 (at' e.mine.Airways x2.2.2).Shock] .n rfl (.t rfl) (.t rfl) rfl ts_46 rfl rfl <|
                Lex.nil) ?_
            refine run_seq ?_
            refine run_region (q_fld_ow .n (.t rfl) fo_46_1 rfl <|
                q_ld1_ow .n (.t rfl) rfl (.inr rfl) (fun _ => rfl) rfl ic_2 rfl <|
                q_fld_ow .n (.t rfl) fo_46_2 rfl <|
                q_ld1_ow .n (.t rfl) rfl (.inr rfl) (fun _ => rfl) rfl ic_2 rfl <|
                q_builda (us := [.int .i64 (at' e.mine.Airways x2.2.2).From, .int .i64 (at' e.mine.Airways x2.2.2).To]) .n (.cons (.t rfl) (.cons (.t rfl) .nil)) zv_127 ae_127 rfl rfl rfl <|
                q_fld_ow .n (.t rfl) fo_46_2 rfl <|
                q_ld1_ow .n (.t rfl) rfl (.inr rfl) (fun _ => rfl) rfl ic_2 rfl <|
                q_fld_ow .n (.t rfl) fo_46_1 rfl <|
                q_ld1_ow .n (.t rfl) rfl (.inr rfl) (fun _ => rfl) rfl ic_2 rfl <|
                q_builda (us := [.int .i64 (at' e.mine.Airways x2.2.2).To, .int .i64 (at' e.mine.Airways x2.2.2).From]) .n (.cons (.t rfl) (.cons (.t rfl) .nil)) zv_127 ae_127 rfl rfl rfl <|
                q_builda (us := [.int .i64 (at' e.mine.Airways x2.2.2).From, .int .i64 (at' e.mine.Airways x2.2.2).To, .int .i64 (at' e.mine.Airways x2.2.2).To, .int .i64 (at' e.mine.Airways x2.2.2).From]) .n (.cons (.t rfl) (.cons (.t rfl) .nil)) zv_128 ae_128 rfl rfl rfl <|
                q_move .n (.c rfl) rfl <|
                Lex.nil) ?_
            refine run_block ?_
            refine run_LOOP (m_impl_escape_times_b3 e c_ start rec1 k1 x1 rec2 k2 x2) _ _ _ rfl (fun (x3 : (List Int) × Bool × Int) => 0 ≤ x3.2.2 ∧ x3.2.2 ≤ 2 ∧ x3.1.length = x2.1.length ∧ SmI e.mine.Junctions x1.1 x3.1 x3.2.1) (fun x3 => 0 ≤ x3.2.2 ∧ x3.2.2 ≤ 2 ∧ x3.1.length = x2.1.length ∧ SmI e.mine.Junctions x1.1 x3.1 x3.2.1 ∧ 2 ≤ x3.2.2) (fun x3 => (2 - x3.2.2 : Int).toNat) (fun x3 => ⟨[(3, some (true, .op 200 0 0 0)), (4, some (true, .op 201 0 0 0)), (7, some (true, .os 203 x3.1.length)), (8, some (true, .bool x3.2.1)), (9, some (true, .int .i64 x2.2.2)), (10, some (true, .op 204 0 0 0)), (35, some (true, .sl 7 (e.mine.Airways.map gAirway.v))), (36, some (true, .int .i64 (e.mine.Airways.length : Int))), (37, some (true, .int .i64 x2.2.2)), (52, some (true, .st [.int .i64 (at' e.mine.Airways x2.2.2).From, .int .i64 (at' e.mine.Airways x2.2.2).To, .int .i64 (at' e.mine.Airways x2.2.2).To, .int .i64 (at' e.mine.Airways x2.2.2).From])), (53, some (true, .int .i64 x3.2.2))], [(200, some (.box 75 [.int .i64 e.mine.Junctions, .sl 7 (e.mine.Airways.map gAirway.v), .sl 1 (e.arrivals.map (V.int .i64)), .int .i64 e.blocked])), (201, some (.box 34 [.str c_.Id, .int .i64 c_.Junction, .int .i64 c_.Speed])), (203, some (.row 2 1 (x3.1.map (V.int .i64)))), (204, some (.box 46 [.str (at' e.mine.Airways x2.2.2).Id, .int .i64 (at' e.mine.Airways x2.2.2).From, .int .i64 (at' e.mine.Airways x2.2.2).To, .int .i64 (at' e.mine.Airways x2.2.2).Length, .int .i64 (at' e.mine.Airways x2.2.2).Section, .int .i64 (at' e.mine.Airways x2.2.2).Friction, .int .i64 (at' e.mine.Airways x2.2.2).Shock]))]⟩) (fun x3 => ⟨[(3, some (true, .op 200 0 0 0)), (4, some (true, .op 201 0 0 0)), (7, some (true, .os 203 x3.1.length)), (8, some (true, .bool x3.2.1)), (35, some (true, .sl 7 (e.mine.Airways.map gAirway.v))), (36, some (true, .int .i64 (e.mine.Airways.length : Int))), (37, some (true, .int .i64 x2.2.2))], [(200, some (.box 75 [.int .i64 e.mine.Junctions, .sl 7 (e.mine.Airways.map gAirway.v), .sl 1 (e.arrivals.map (V.int .i64)), .int .i64 e.blocked])), (201, some (.box 34 [.str c_.Id, .int .i64 c_.Junction, .int .i64 c_.Speed])), (203, some (.row 2 1 (x3.1.map (V.int .i64))))]⟩) ⟨by (simp only [List.length_append, List.length_cons, List.length_nil, List.length_replicate, put_len] at * <;> omega), by (simp only [List.length_append, List.length_cons, List.length_nil, List.length_replicate, put_len] at * <;> omega), by (simp only [List.length_append, List.length_cons, List.length_nil, List.length_replicate, put_len] at * <;> omega), by omega⟩ (by (simp only [List.length_append, List.length_cons, List.length_nil, List.length_replicate, put_len] at * <;> omega)) (sub_of [] ⟨rfl, rfl, rfl, rfl, rfl, rfl, rfl, rfl, rfl, rfl, rfl, trivial⟩ ⟨rfl, rfl, rfl, rfl, trivial⟩ rfl) ?_ ?_
            · intro x3 i14
              obtain ⟨e15, e16, e17, e18, e19⟩ := i14
              try dsimp only at *
              refine run_endB ?_
              refine run_region (q_add .n (.t rfl) (.c rfl) (fun _ => by omega) rfl <|
                  q_move .n (.t rfl) rfl <|
                  Lex.nil) ?_
              exact run_again (x3.1, x3.2.1, x2.2.2 + 1) ⟨by (simp only [List.length_append, List.length_cons, List.length_nil, List.length_replicate, put_len] at * <;> omega), by assumption, by omega⟩ (by (simp only [List.length_append, List.length_cons, List.length_nil, List.length_replicate, put_len] at * <;> omega)) (sub_of [] ⟨rfl, rfl, rfl, rfl, rfl, rfl, rfl, trivial⟩ ⟨rfl, rfl, rfl, trivial⟩ rfl)
            · intro rec3 k3 hk10 x3 i11
              obtain ⟨e20, e21, e22, e23⟩ := i11
              try dsimp only at *
              refine run_seq ?_
              refine run_region (q_int .n (.t rfl) (.c rfl) rfl rfl <|
                  Lex.nil) ?_
              refine run_seq ?_
              refine run_cond (.t rfl) rfl (fun h12 => ?_) (fun h12 => ?_)
              · try simp only [Bool.and_eq_true, Bool.or_eq_true, Bool.not_eq_true', Bool.and_eq_false_iff, Bool.or_eq_false_iff, Bool.not_eq_false', decide_eq_true_eq, decide_eq_false_iff_not, beq_iff_eq, bne_iff_ne, beq_eq_false_iff_ne, bne_eq_false_iff_eq, Bool.true_and, ne_eq, Decidable.not_not, Int.not_lt, Int.not_le, Nat.not_lt, Nat.not_le, strB_nil, strB_nil', strB_nnil, strB_nnil'] at h12
                refine run_skip ?_
                refine run_seq ?_
                refine run_block ?_
                refine run_seq ?_
                refine run_region (q_indexa [.int .i64 (at' ([(at' e.mine.Airways x2.2.2).From, (at' e.mine.Airways x2.2.2).To] : List Int) x3.2.2), .int .i64 (at' ([(at' e.mine.Airways x2.2.2).To, (at' e.mine.Airways x2.2.2).From] : List Int) x3.2.2)] .n (.t rfl) (.t rfl) ae_128 ag_127 rfl (fun _ => by omega) (fun _ => by have h : x3.2.2 = 0 ∨ x3.2.2 = 1 := (by first | omega | (simp only [List.length_append, List.length_cons, List.length_nil, List.length_replicate, put_len] at *; omega)); rcases h with h | h <;> (rw [h]; rfl)) rfl <|
                    q_alloc (l := 205) .n rfl zv_127 rfl rfl <|
                    q_st_boxm [.int .i64 (at' ([(at' e.mine.Airways x2.2.2).From, (at' e.mine.Airways x2.2.2).To] : List Int) x3.2.2), .int .i64 (at' ([(at' e.mine.Airways x2.2.2).To, (at' e.mine.Airways x2.2.2).From] : List Int) x3.2.2)] .n rfl (.t rfl) (.t rfl) rfl ts_127 rfl rfl <|
                    Lex.nil) ?_
                refine run_seq ?_
                refine run_draw fmo (q_move .n (.t rfl) rfl <|
                    q_idxa_ow .n (.t rfl) (.c rfl) ae_127 (by decide) 0 rfl rfl <|
                    q_ld1_ow .n (.t rfl) rfl (.inr rfl) (fun _ => rfl) rfl ic_2 rfl <|
                    q_idx_ow .n (.t rfl) (.t rfl) sl_28 (fun _ => by ((have hS : SmI e.mine.Junctions x1.1 x3.1 x3.2.1 := (by assumption); have hl := hS.1.1; have hw0 := hp1.at (i := x2.2.2) (by omega); unfold AirIn at hw0; have hw1 := at2 hw0 (q := x3.2.2) (by omega); omega))) rfl <|
                    q_ld1_row .n (.t rfl) rfl (fun _ => by ((have hS : SmI e.mine.Junctions x1.1 x3.1 x3.2.1 := (by assumption); have hl := hS.1.1; have hw0 := hp1.at (i := x2.2.2) (by omega); unfold AirIn at hw0; have hw1 := at2 hw0 (q := x3.2.2) (by omega); omega))) rfl rfl rfl ic_2 rfl <|
                    q_ldN_ow .n (.t rfl) rfl (.inr rfl) ag_46 (fun _ => rfl) rfl rfl <|
                    q_fld_ow .n (.t rfl) fo_34_2 rfl <|
                    q_ld1_ow .n (.t rfl) rfl (.inr rfl) (fun _ => rfl) rfl ic_2 rfl <|
                    q_call0 (full := false) .n .f en_46 (.cons (.t rfl) (.cons (.t rfl) .nil)) (.cons (.sts rfl) (.cons (.b (.a (.same rfl))) .nil)) (fun hg => c_impl_Airway_walkTime (at' e.mine.Airways x2.2.2) c_.Speed (by omega)) rfl (fun h => Bool.noConfusion h) rfl <|
                    q_int .n (.t rfl) (.t rfl) rfl rfl <|
                    q_assign .n (.t rfl) rfl <|
                    Lex.nil) (by kernel_rfl) ?_
                refine run_seq ?_
                refine run_region (q_move .n (.t rfl) rfl <|
                    q_idxa_ow .n (.t rfl) (.c rfl) ae_127 (by decide) 1 rfl rfl <|
                    q_ld1_ow .n (.t rfl) rfl (.inr rfl) (fun _ => rfl) rfl ic_2 rfl <|
                    q_idx_ow .n (.t rfl) (.t rfl) sl_28 (fun _ => by ((have hS : SmI e.mine.Junctions x1.1 x3.1 x3.2.1 := (by assumption); have hl := hS.1.1; have hw0 := hp1.at (i := x2.2.2) (by omega); unfold AirIn at hw0; have hw1 := at2 hw0 (q := x3.2.2) (by omega); omega))) rfl <|
                    q_ld1_row .n (.t rfl) rfl (fun _ => by ((have hS : SmI e.mine.Junctions x1.1 x3.1 x3.2.1 := (by assumption); have hl := hS.1.1; have hw0 := hp1.at (i := x2.2.2) (by omega); unfold AirIn at hw0; have hw1 := at2 hw0 (q := x3.2.2) (by omega); omega))) rfl rfl rfl ic_2 rfl <|
                    q_int .n (.t rfl) (.c rfl) rfl rfl <|
                    q_move .n (.t rfl) rfl <|
                    q_move (.f rfl rfl) (.t rfl) rfl <|
                    q_move (.f rfl rfl) (.t rfl) rfl <|
                    q_idxa_ow (.f rfl rfl) (.t rfl) (.c rfl) ae_127 (by decide) 1 rfl rfl <|
                    q_ld1_ow (.f rfl rfl) (.u rfl id) rfl (.inr rfl) (fun _ => rfl) rfl ic_2 rfl <|
                    q_idx_ow (.f rfl rfl) (.u rfl id) (.u rfl id) sl_28 (fun hg => by simp only [Bool.and_eq_true, Bool.or_eq_true, Bool.not_eq_true', Bool.and_eq_false_iff, Bool.or_eq_false_iff, Bool.not_eq_false', decide_eq_true_eq, decide_eq_false_iff_not, beq_iff_eq, bne_iff_ne, beq_eq_false_iff_ne, bne_eq_false_iff_eq, Bool.true_and, ne_eq, Decidable.not_not, Int.not_lt, Int.not_le, Nat.not_lt, Nat.not_le, strB_nil, strB_nil', strB_nnil, strB_nnil'] at hg; ((have hS : SmI e.mine.Junctions x1.1 x3.1 x3.2.1 := (by assumption); have hl := hS.1.1; have hw0 := hp1.at (i := x2.2.2) (by omega); unfold AirIn at hw0; have hw1 := at2 hw0 (q := x3.2.2) (by omega); omega))) rfl <|
                    q_ld1_row (.f rfl rfl) (.u rfl id) rfl (fun hg => by simp only [Bool.and_eq_true, Bool.or_eq_true, Bool.not_eq_true', Bool.and_eq_false_iff, Bool.or_eq_false_iff, Bool.not_eq_false', decide_eq_true_eq, decide_eq_false_iff_not, beq_iff_eq, bne_iff_ne, beq_eq_false_iff_ne, bne_eq_false_iff_eq, Bool.true_and, ne_eq, Decidable.not_not, Int.not_lt, Int.not_le, Nat.not_lt, Nat.not_le, strB_nil, strB_nil', strB_nnil, strB_nnil'] at hg; ((have hS : SmI e.mine.Junctions x1.1 x3.1 x3.2.1 := (by assumption); have hl := hS.1.1; have hw0 := hp1.at (i := x2.2.2) (by omega); unfold AirIn at hw0; have hw1 := at2 hw0 (q := x3.2.2) (by omega); omega))) rfl rfl rfl ic_2 rfl <|
                    q_int (.f rfl rfl) (.u rfl id) (.u rfl id) rfl rfl <|
                    q_or .n (.t rfl) (.u rfl id) rfl <|
                    q_assign .n (.t rfl) rfl <|
                    Lex.nil) ?_
                refine run_seq ?_
                refine run_region (q_move .n (.t rfl) rfl <|
                    q_fld_ow .n (.t rfl) fo_75_2 rfl <|
                    q_ld1_ow .n (.t rfl) rfl (.inr rfl) (fun _ => rfl) rfl ic_2 rfl <|
                    q_int .n (.t rfl) (.t rfl) rfl rfl <|
                    q_move .n (.t rfl) rfl <|
                    q_move (.t rfl rfl) (.t rfl) rfl <|
                    q_idxa_ow (.t rfl rfl) (.t rfl) (.c rfl) ae_127 (by decide) 0 rfl rfl <|
                    q_ld1_ow (.t rfl rfl) (.u rfl id) rfl (.inr rfl) (fun _ => rfl) rfl ic_2 rfl <|
                    q_idx_ow (.t rfl rfl) (.u rfl id) (.u rfl id) sl_28 (fun hg => by simp only [Bool.and_eq_true, Bool.or_eq_true, Bool.not_eq_true', Bool.and_eq_false_iff, Bool.or_eq_false_iff, Bool.not_eq_false', decide_eq_true_eq, decide_eq_false_iff_not, beq_iff_eq, bne_iff_ne, beq_eq_false_iff_ne, bne_eq_false_iff_eq, Bool.true_and, ne_eq, Decidable.not_not, Int.not_lt, Int.not_le, Nat.not_lt, Nat.not_le, strB_nil, strB_nil', strB_nnil, strB_nnil'] at hg; ((have hS : SmI e.mine.Junctions x1.1 x3.1 x3.2.1 := (by assumption); have hl := hS.1.1; have hw0 := hp1.at (i := x2.2.2) (by omega); unfold AirIn at hw0; have hw1 := at2 hw0 (q := x3.2.2) (by omega); omega))) rfl <|
                    q_ld1_row (.t rfl rfl) (.u rfl id) rfl (fun hg => by simp only [Bool.and_eq_true, Bool.or_eq_true, Bool.not_eq_true', Bool.and_eq_false_iff, Bool.or_eq_false_iff, Bool.not_eq_false', decide_eq_true_eq, decide_eq_false_iff_not, beq_iff_eq, bne_iff_ne, beq_eq_false_iff_ne, bne_eq_false_iff_eq, Bool.true_and, ne_eq, Decidable.not_not, Int.not_lt, Int.not_le, Nat.not_lt, Nat.not_le, strB_nil, strB_nil', strB_nnil, strB_nnil'] at hg; ((have hS : SmI e.mine.Junctions x1.1 x3.1 x3.2.1 := (by assumption); have hl := hS.1.1; have hw0 := hp1.at (i := x2.2.2) (by omega); unfold AirIn at hw0; have hw1 := at2 hw0 (q := x3.2.2) (by omega); omega))) rfl rfl rfl ic_2 rfl <|
                    q_int (.t rfl rfl) (.u rfl id) (.c rfl) rfl rfl <|
                    q_and .n (.t rfl) (.u rfl id) rfl <|
                    q_move .n (.t rfl) rfl <|
                    q_move (.t rfl rfl) (.t rfl) rfl <|
                    q_and .n (.t rfl) (.u rfl id) rfl <|
                    q_move .n (.t rfl) rfl <|
                    q_ldN_ow (.t rfl rfl) (.t rfl) rfl (.inr rfl) ag_75 (fun _ => rfl) rfl rfl <|
                    q_idxa_ow (.t rfl rfl) (.t rfl) (.c rfl) ae_127 (by decide) 1 rfl rfl <|
                    q_ld1_ow (.t rfl rfl) (.u rfl id) rfl (.inr rfl) (fun _ => rfl) rfl ic_2 rfl <|
                    q_move (.t rfl rfl) (.t rfl) rfl <|
                    q_call0 (full := false) (.t rfl rfl) .f en_80 (.cons (.u rfl id) (.cons (.u rfl id) (.cons (.u rfl id) .nil))) (.cons (.sts rfl) (.cons (.b (.a (.same rfl))) (.cons (.b (.a (.same rfl))) .nil))) (fun hg => c_impl_escape_mayBe e (at' ([(at' e.mine.Airways x2.2.2).To, (at' e.mine.Airways x2.2.2).From] : List Int) x3.2.2) (IntKind.wrap .i64 ((at' x3.1 (at' ([(at' e.mine.Airways x2.2.2).From, (at' e.mine.Airways x2.2.2).To] : List Int) x3.2.2)) + (m_impl_Airway_walkTime (at' e.mine.Airways x2.2.2) c_.Speed))) (by simp only [Bool.and_eq_true, Bool.or_eq_true, Bool.not_eq_true', Bool.and_eq_false_iff, Bool.or_eq_false_iff, Bool.not_eq_false', decide_eq_true_eq, decide_eq_false_iff_not, beq_iff_eq, bne_iff_ne, beq_eq_false_iff_ne, bne_eq_false_iff_eq, Bool.true_and, ne_eq, Decidable.not_not, Int.not_lt, Int.not_le, Nat.not_lt, Nat.not_le, strB_nil, strB_nil', strB_nnil, strB_nnil'] at hg; ((have hS : SmI e.mine.Junctions x1.1 x3.1 x3.2.1 := (by assumption); have hl := hS.1.1; have hw0 := hp1.at (i := x2.2.2) (by omega); unfold AirIn at hw0; have hw1 := at2 hw0 (q := x3.2.2) (by omega); omega)))) rfl (fun h => Bool.noConfusion h) rfl <|
                    q_and .n (.t rfl) (.u rfl id) rfl <|
                    Lex.nil) ?_
                refine run_cond (.t rfl) rfl (fun h13 => ?_) (fun h13 => ?_)
                · try simp only [Bool.and_eq_true, Bool.or_eq_true, Bool.not_eq_true', Bool.and_eq_false_iff, Bool.or_eq_false_iff, Bool.not_eq_false', decide_eq_true_eq, decide_eq_false_iff_not, beq_iff_eq, bne_iff_ne, beq_eq_false_iff_ne, bne_eq_false_iff_eq, Bool.true_and, ne_eq, Decidable.not_not, Int.not_lt, Int.not_le, Nat.not_lt, Nat.not_le, strB_nil, strB_nil', strB_nnil, strB_nnil'] at h13
                  refine run_region (q_move .n (.t rfl) rfl <|
                      q_idxa_ow .n (.t rfl) (.c rfl) ae_127 (by decide) 1 rfl rfl <|
                      q_ld1_ow .n (.t rfl) rfl (.inr rfl) (fun _ => rfl) rfl ic_2 rfl <|
                      q_move .n (.t rfl) rfl <|
                      q_idx_ow .n (.t rfl) (.t rfl) sl_28 (fun _ => by ((have hS : SmI e.mine.Junctions x1.1 x3.1 x3.2.1 := (by assumption); have hl := hS.1.1; have hw0 := hp1.at (i := x2.2.2) (by omega); unfold AirIn at hw0; have hw1 := at2 hw0 (q := x3.2.2) (by omega); omega))) rfl <|
                      q_st_rowm (IntKind.wrap .i64 ((at' x3.1 (at' ([(at' e.mine.Airways x2.2.2).From, (at' e.mine.Airways x2.2.2).To] : List Int) x3.2.2)) + (m_impl_Airway_walkTime (at' e.mine.Airways x2.2.2) c_.Speed))) .n rfl (.t rfl) (.t rfl) rfl ts_2 (by ((have hS : SmI e.mine.Junctions x1.1 x3.1 x3.2.1 := (by assumption); have hl := hS.1.1; have hw0 := hp1.at (i := x2.2.2) (by omega); unfold AirIn at hw0; have hw1 := at2 hw0 (q := x3.2.2) (by omega); omega))) rfl rfl <|
                      q_assign .n (.c rfl) rfl <|
                      Lex.nil) ?_
                  refine run_endB ?_
                  refine run_region (q_add .n (.t rfl) (.c rfl) (fun _ => by omega) rfl <|
                      q_move .n (.t rfl) rfl <|
                      Lex.nil) ?_
                  exact run_again (put' x3.1 (at' ([(at' e.mine.Airways x2.2.2).To, (at' e.mine.Airways x2.2.2).From] : List Int) x3.2.2) (IntKind.wrap .i64 ((at' x3.1 (at' ([(at' e.mine.Airways x2.2.2).From, (at' e.mine.Airways x2.2.2).To] : List Int) x3.2.2)) + (m_impl_Airway_walkTime (at' e.mine.Airways x2.2.2) c_.Speed))), true, x3.2.2 + 1) ⟨by (simp only [List.length_append, List.length_cons, List.length_nil, List.length_replicate, put_len] at * <;> omega), by assumption, by (simp only [List.length_append, List.length_cons, List.length_nil, List.length_replicate, put_len] at * <;> omega), by ((have hS : SmI e.mine.Junctions x1.1 x3.1 x3.2.1 := (by assumption); have hl := hS.1.1; exact times_put hp1 hp3.2 hS (by omega) (by omega) (by assumption)))⟩ (by (simp only [List.length_append, List.length_cons, List.length_nil, List.length_replicate, put_len] at * <;> omega)) (sub_of [] ⟨rfl, rfl, os_len rfl (by first | (simp only [put_len]; done) | (first | omega | assumption | (simp only [List.length_append, List.length_cons, List.length_nil, List.length_replicate, put_len] at * <;> omega) | ((exact cw_start hp1 hp3 hp4); done) | ((exact cw_pot hp1 hp3 hp4); done) | ((exact SmI.refl (by assumption)); done) | ((exact SmI.mu (by assumption) (by assumption)); done) | ((exact And.left (by assumption)); done) | (((have hS : SmI e.mine.Junctions x1.1 x3.1 x3.2.1 := (by assumption); have hl := hS.1.1; have hw0 := hp1.at (i := x2.2.2) (by omega); unfold AirIn at hw0; have hw1 := at2 hw0 (q := x3.2.2) (by omega); omega)); done) | (((have hS : SmI e.mine.Junctions x1.1 x3.1 x3.2.1 := (by assumption); have hl := hS.1.1; exact times_put hp1 hp3.2 hS (by omega) (by omega) (by assumption))); done))), rfl, rfl, rfl, rfl, rfl, rfl, rfl, rfl, trivial⟩ ⟨rfl, rfl, rfl, rfl, trivial⟩ rfl)
                · try simp only [Bool.and_eq_true, Bool.or_eq_true, Bool.not_eq_true', Bool.and_eq_false_iff, Bool.or_eq_false_iff, Bool.not_eq_false', decide_eq_true_eq, decide_eq_false_iff_not, beq_iff_eq, bne_iff_ne, beq_eq_false_iff_ne, bne_eq_false_iff_eq, Bool.true_and, ne_eq, Decidable.not_not, Int.not_lt, Int.not_le, Nat.not_lt, Nat.not_le, strB_nil, strB_nil', strB_nnil, strB_nnil'] at h13
                  refine run_skip ?_
                  refine run_endB ?_
                  refine run_region (q_add .n (.t rfl) (.c rfl) (fun _ => by omega) rfl <|
                      q_move .n (.t rfl) rfl <|
                      Lex.nil) ?_
                  exact run_again (x3.1, x3.2.1, x3.2.2 + 1) ⟨by (simp only [List.length_append, List.length_cons, List.length_nil, List.length_replicate, put_len] at * <;> omega), by assumption, by omega, by omega⟩ (by (simp only [List.length_append, List.length_cons, List.length_nil, List.length_replicate, put_len] at * <;> omega)) (sub_of [] ⟨rfl, rfl, rfl, rfl, rfl, rfl, rfl, rfl, rfl, rfl, rfl, trivial⟩ ⟨rfl, rfl, rfl, rfl, trivial⟩ rfl)
              · try simp only [Bool.and_eq_true, Bool.or_eq_true, Bool.not_eq_true', Bool.and_eq_false_iff, Bool.or_eq_false_iff, Bool.not_eq_false', decide_eq_true_eq, decide_eq_false_iff_not, beq_iff_eq, bne_iff_ne, beq_eq_false_iff_ne, bne_eq_false_iff_eq, Bool.true_and, ne_eq, Decidable.not_not, Int.not_lt, Int.not_le, Nat.not_lt, Nat.not_le, strB_nil, strB_nil', strB_nnil, strB_nnil'] at h12
                refine run_exit rfl ?_
                exact run_cont hk10 (x3.1, x3.2.1, x3.2.2) ⟨by omega, by omega, by omega, by omega, by omega⟩ (sub_of [] ⟨rfl, rfl, rfl, rfl, rfl, rfl, rfl, trivial⟩ ⟨rfl, rfl, rfl, trivial⟩ rfl)
          · try simp only [Bool.and_eq_true, Bool.or_eq_true, Bool.not_eq_true', Bool.and_eq_false_iff, Bool.or_eq_false_iff, Bool.not_eq_false', decide_eq_true_eq, decide_eq_false_iff_not, beq_iff_eq, bne_iff_ne, beq_eq_false_iff_ne, bne_eq_false_iff_eq, Bool.true_and, ne_eq, Decidable.not_not, Int.not_lt, Int.not_le, Nat.not_lt, Nat.not_le, strB_nil, strB_nil', strB_nnil, strB_nnil'] at h9
            refine run_exit rfl ?_
            exact run_cont hk7 (x2.1, x2.2.1, x2.2.2) ⟨by omega, by omega, by omega, by omega⟩ (sub_of [] ⟨rfl, rfl, rfl, rfl, trivial⟩ ⟨rfl, rfl, rfl, trivial⟩ rfl)
      · try simp only [Bool.and_eq_true, Bool.or_eq_true, Bool.not_eq_true', Bool.and_eq_false_iff, Bool.or_eq_false_iff, Bool.not_eq_false', decide_eq_true_eq, decide_eq_false_iff_not, beq_iff_eq, bne_iff_ne, beq_eq_false_iff_ne, bne_eq_false_iff_eq, Bool.true_and, ne_eq, Decidable.not_not, Int.not_lt, Int.not_le, Nat.not_lt, Nat.not_le, strB_nil, strB_nil', strB_nnil, strB_nnil'] at h6
        refine run_exit rfl ?_
        exact run_cont hk4 (x1.1, x1.2) (by omega) (sub_of [] ⟨rfl, trivial⟩ ⟨rfl, trivial⟩ rfl)

/-! ### impl_LastStart_1 -/
theorem c_impl_LastStart_1 (start : Int) (p1 : gescape) (p2 : gCrew) (p3 : List Int) (hp1 : MineIn p1.mine) (hp2 : (p1.arrivals.length : Int) = p1.mine.Junctions) (hp3 : CrewIn p1.mine p2) (hp4 : 0 ≤ start ∧ start ≤ 36000) (hp5 : ∀ y ∈ p3, 0 ≤ y ∧ y < p1.mine.Junctions) : Con Try.prog 35 [.int .i64 start, .rp [.int .i64 p1.mine.Junctions, .sl 7 (p1.mine.Airways.map gAirway.v), .sl 1 (p1.arrivals.map (V.int .i64)), .int .i64 p1.blocked], .rp [.str p2.Id, .int .i64 p2.Junction, .int .i64 p2.Speed], .rp [.sl 1 (p3.map (V.int .i64))]] [] (.bool (m_impl_LastStart_1 start p1 p2 p3)) ([]) := by
  refine con_intro (out := fun r : Bool => ((.bool r : V), ([] : List (Nat × Option O)))) (r := (m_impl_LastStart_1 start p1 p2 p3)) Try.func35 rfl Try.ntmps35 rfl ?_
  have hJ1 := hp1.1
  have hA1 := hp1.2.1
  refine run_factP (t := 1) 1 rfl rfl fun hl => ?_
  have l1 := hl; clear hl; simp only [List.length_map] at l1
  refine run_factP (t := 1) 2 rfl rfl fun hl => ?_
  have l2 := hl; clear hl; simp only [List.length_map] at l2
  refine run_factP (t := 3) 0 rfl rfl fun hl => ?_
  have l3 := hl; clear hl; simp only [List.length_map] at l3
  refine run_seq ?_
  refine run_region (q_assign .n (.c rfl) rfl <|
      Lex.nil) ?_
  refine run_seq ?_
  refine run_draw fmo (q_ldN_ro .n (.t rfl) ag_75 rfl rfl rfl <|
      q_ldN_ro .n (.t rfl) ag_34 rfl rfl rfl <|
      q_move .n (.t rfl) rfl <|
      q_callM (full := false) [] [(100, 200)] .n rfl .f en_37 (.cons (.t rfl) (.cons (.t rfl) (.cons (.t rfl) .nil))) (.cons (.sts rfl) (.cons (.sts rfl) (.cons (.b (.a (.same rfl))) .nil))) (c_impl_escape_times p1 p2 start (by omega) (by omega) (by omega) (by omega)) trivial rfl rfl (fun h => Bool.noConfusion h) (fun h => Bool.noConfusion h) rfl <|
      q_ld1_ro .n (.t rfl) rfl ic_28 rfl <|
      q_call0 (full := true) .n .f en_36 (.cons (.t rfl) (.cons (.t rfl) .nil)) (.cons (.b (.a (.own rfl rfl rfl (take_all (by simp only [len_map, put_len] <;> rfl)) (by simp only [len_map, put_len] <;> rfl)))) (.cons (.b (.a (.same rfl))) .nil)) (fun hg => c_impl_firstReached (m_impl_escape_times p1 p2 start) p3 (by (exact tm_in hp1 hp3 hp4 hp5))) rfl (fun _ => rfl) rfl <|
      q_int .n (.t rfl) (.c rfl) rfl rfl <|
      q_assign .n (.t rfl) rfl <|
      Lex.nil) (by kernel_rfl) ?_
  exact run_ret [] (.cons (.t rfl rfl) .nil) rfl trivial rfl

/-! ### impl_orNotFound -/
theorem c_impl_orNotFound (n_ : Int) (ok : Bool) : Con Try.prog 38 [.int .i64 n_, .bool ok] [] (.tup [.int .i64 (m_impl_orNotFound n_ ok).1, .int .i64 (m_impl_orNotFound n_ ok).2]) ([]) := by
  refine con_intro (out := fun r : Int × Int => ((.tup [.int .i64 r.1, .int .i64 r.2] : V), ([] : List (Nat × Option O)))) (r := (m_impl_orNotFound n_ ok)) Try.func38 rfl Try.ntmps38 rfl ?_
  refine run_seq ?_
  refine run_region (q_assign .n (.c rfl) rfl <|
      q_assign .n (.c rfl) rfl <|
      Lex.nil) ?_
  refine run_seq ?_
  refine run_seq ?_
  refine run_region (q_move .n (.t rfl) rfl <|
      q_not .n (.t rfl) rfl <|
      Lex.nil) ?_
  refine run_cond (.t rfl) rfl (fun h1 => ?_) (fun h1 => ?_)
  · try simp only [Bool.and_eq_true, Bool.or_eq_true, Bool.not_eq_true', Bool.and_eq_false_iff, Bool.or_eq_false_iff, Bool.not_eq_false', decide_eq_true_eq, decide_eq_false_iff_not, beq_iff_eq, bne_iff_ne, beq_eq_false_iff_ne, bne_eq_false_iff_eq, Bool.true_and, ne_eq, Decidable.not_not, Int.not_lt, Int.not_le, Nat.not_lt, Nat.not_le, strB_nil, strB_nil', strB_nnil, strB_nnil'] at h1
    refine run_seq ?_
    refine run_region (q_assign .n (.c rfl) rfl <|
        q_assign .n (.c rfl) rfl <|
        Lex.nil) ?_
    exact run_ret [] (.cons (.t rfl rfl) (.cons (.t rfl rfl) .nil)) rfl trivial rfl
  · try simp only [Bool.and_eq_true, Bool.or_eq_true, Bool.not_eq_true', Bool.and_eq_false_iff, Bool.or_eq_false_iff, Bool.not_eq_false', decide_eq_true_eq, decide_eq_false_iff_not, beq_iff_eq, bne_iff_ne, beq_eq_false_iff_ne, bne_eq_false_iff_eq, Bool.true_and, ne_eq, Decidable.not_not, Int.not_lt, Int.not_le, Nat.not_lt, Nat.not_le, strB_nil, strB_nil', strB_nnil, strB_nnil'] at h1
    refine run_skip ?_
    refine run_seq ?_
    refine run_region (q_move .n (.t rfl) rfl <|
        q_assign .n (.t rfl) rfl <|
        q_assign .n (.c rfl) rfl <|
        Lex.nil) ?_
    exact run_ret [] (.cons (.t rfl rfl) (.cons (.t rfl rfl) .nil)) rfl trivial rfl

/-! ### impl_LastStart -/
theorem c_impl_LastStart (m_ : gMine) (arrivals : List Int) (blocked : Int) (c_ : gCrew) (exits : List Int) : Con Try.prog 11 [.st [.int .i64 m_.Junctions, .sl 7 (m_.Airways.map gAirway.v)], .sl 1 (arrivals.map (V.int .i64)), .int .i64 blocked, .st [.str c_.Id, .int .i64 c_.Junction, .int .i64 c_.Speed], .sl 1 (exits.map (V.int .i64))] [] (.tup [.int .i64 (m_impl_LastStart m_ arrivals blocked c_ exits).1, .int .i64 (m_impl_LastStart m_ arrivals blocked c_ exits).2]) ([]) := by
  refine con_intro (out := fun r : Int × Int => ((.tup [.int .i64 r.1, .int .i64 r.2] : V), ([] : List (Nat × Option O)))) (r := (m_impl_LastStart m_ arrivals blocked c_ exits)) Try.func11 rfl Try.ntmps11 rfl ?_
  refine run_factS (t := 0) 1 rfl rfl fun hl => ?_
  have l1 := hl; clear hl; simp only [List.length_map] at l1
  refine run_fact (t := 1) rfl fun hl => ?_
  have l2 := hl; clear hl; simp only [List.length_map] at l2
  refine run_fact (t := 4) rfl fun hl => ?_
  have l3 := hl; clear hl; simp only [List.length_map] at l3
  refine run_seq ?_
  refine run_region (q_box (l := 200) .n rfl (.t rfl) rfl rfl rfl rfl <|
      q_box (l := 201) .n rfl (.t rfl) rfl rfl rfl rfl <|
      q_box (l := 202) .n rfl (.t rfl) rfl rfl rfl rfl <|
      q_assign .n (.c rfl) rfl <|
      q_assign .n (.c rfl) rfl <|
      Lex.nil) ?_
  refine run_seq ?_
  refine run_region (q_ldN_ow .n (.t rfl) rfl (.inr rfl) ag_26 (fun _ => rfl) rfl rfl <|
      q_move .n (.t rfl) rfl <|
      q_move .n (.t rfl) rfl <|
      q_ldN_ow .n (.t rfl) rfl (.inr rfl) ag_34 (fun _ => rfl) rfl rfl <|
      q_bslicem ([c_] : List gCrew) (f := gCrew.v) (l := 203) .n rfl rfl (.cons (.t rfl) .nil) rfl si_78 zv_34 rfl rfl rfl <|
      q_ld1_ow .n (.t rfl) rfl (.inr rfl) (fun _ => rfl) rfl ic_28 rfl <|
      q_callM (full := false) [(3, 203)] [] .n rfl .f en_33 (.cons (.t rfl) (.cons (.t rfl) (.cons (.t rfl) (.cons (.t rfl) (.cons (.c rfl) (.cons (.t rfl) .nil)))))) (.cons (.sts rfl) (.cons (.b (.a (.same rfl))) (.cons (.b (.a (.same rfl))) (.cons (.b (.muts rfl)) (.cons (.b (.a (.same rfl))) (.cons (.b (.a (.same rfl))) .nil)))))) (c_impl_escapeOf m_ arrivals blocked ([c_] : List gCrew) 0 exits) ⟨rfl, trivial⟩ rfl rfl (fun h => Bool.noConfusion h) (fun h => Bool.noConfusion h) rfl <|
      q_move .n (.t rfl) rfl <|
      q_ext .n (.t rfl) rfl rfl rfl <|
      q_ext .n (.t rfl) rfl rfl rfl <|
      q_alloc (l := 204) .n rfl zv_75 rfl rfl <|
      q_st_boxm [.int .i64 (m_impl_escapeOf m_ arrivals blocked ([c_] : List gCrew) 0 exits).1.mine.Junctions, .sl 7 ((m_impl_escapeOf m_ arrivals blocked ([c_] : List gCrew) 0 exits).1.mine.Airways.map gAirway.v), .sl 1 ((m_impl_escapeOf m_ arrivals blocked ([c_] : List gCrew) 0 exits).1.arrivals.map (V.int .i64)), .int .i64 (m_impl_escapeOf m_ arrivals blocked ([c_] : List gCrew) 0 exits).1.blocked] .n rfl (.t rfl) (.t rfl) rfl ts_75 rfl rfl <|
      q_assign .n (.t rfl) rfl <|
      Lex.nil) ?_
  refine run_seq ?_
  refine run_seq ?_
  refine run_region (q_move .n (.t rfl) rfl <|
      q_int .n (.t rfl) (.c rfl) rfl rfl <|
      Lex.nil) ?_
  refine run_cond (.t rfl) rfl (fun h4 => ?_) (fun h4 => ?_)
  · try simp only [Bool.and_eq_true, Bool.or_eq_true, Bool.not_eq_true', Bool.and_eq_false_iff, Bool.or_eq_false_iff, Bool.not_eq_false', decide_eq_true_eq, decide_eq_false_iff_not, beq_iff_eq, bne_iff_ne, beq_eq_false_iff_ne, bne_eq_false_iff_eq, Bool.true_and, ne_eq, Decidable.not_not, Int.not_lt, Int.not_le, Nat.not_lt, Nat.not_le, strB_nil, strB_nil', strB_nnil, strB_nnil'] at h4
    try have hf0h4 := escapeOf_impS h4
    try have hf1h4 := escapeOf_impS h4.1
    try have hf2h4 := escapeOf_impS h4.2
    try have hf3h4 := escapeOf_impS h4.1.1
    try have hf4h4 := escapeOf_impS h4.1.2
    try have hf5h4 := escapeOf_impS h4.2.1
    try have hf6h4 := escapeOf_impS h4.2.2
    refine run_seq ?_
    refine run_region (q_move .n (.t rfl) rfl <|
        q_assign .n (.c rfl) rfl <|
        q_assign .n (.t rfl) rfl <|
        Lex.nil) ?_
    exact run_ret [] (.cons (.t rfl rfl) (.cons (.t rfl rfl) .nil)) rfl trivial rfl
  · try simp only [Bool.and_eq_true, Bool.or_eq_true, Bool.not_eq_true', Bool.and_eq_false_iff, Bool.or_eq_false_iff, Bool.not_eq_false', decide_eq_true_eq, decide_eq_false_iff_not, beq_iff_eq, bne_iff_ne, beq_eq_false_iff_ne, bne_eq_false_iff_eq, Bool.true_and, ne_eq, Decidable.not_not, Int.not_lt, Int.not_le, Nat.not_lt, Nat.not_le, strB_nil, strB_nil', strB_nnil, strB_nnil'] at h4
    try have hf0h4 := escapeOf_impS h4
    try have hf1h4 := escapeOf_impS h4.1
    try have hf2h4 := escapeOf_impS h4.2
    try have hf3h4 := escapeOf_impS h4.1.1
    try have hf4h4 := escapeOf_impS h4.1.2
    try have hf5h4 := escapeOf_impS h4.2.1
    try have hf6h4 := escapeOf_impS h4.2.2
    refine run_skip ?_
    refine run_seq ?_
    refine run_region (q_clo .n (.cons (.t rfl) (.cons (.t rfl) (.cons (.t rfl) .nil))) rfl rfl <|
        q_call0 (full := true) .n .f en_34 (.cons (.c rfl) (.cons (.c rfl) (.cons (.t rfl) .nil))) (.cons (.b (.a (.same rfl))) (.cons (.b (.a (.same rfl))) (.cons (.clo (.cons (.ptr rfl rfl (.inr rfl) rfl rfl (.cons (.same rfl) (.cons (.same rfl) (.cons (.same rfl) (.cons (.same rfl) .nil))))) (.cons (.ptr rfl rfl (.inr rfl) rfl rfl (.cons (.same rfl) (.cons (.same rfl) (.cons (.same rfl) .nil)))) (.cons (.ptr rfl rfl (.inr rfl) rfl rfl (.cons (.same rfl) .nil)) .nil)))) .nil))) (fun hg => c_impl_firstIn 0 36000 (fun (a0 : Int) => m_impl_LastStart_1 a0 (m_impl_escapeOf m_ arrivals blocked ([c_] : List gCrew) 0 exits).1 c_ exits) 35 [.rp [.int .i64 (m_impl_escapeOf m_ arrivals blocked ([c_] : List gCrew) 0 exits).1.mine.Junctions, .sl 7 ((m_impl_escapeOf m_ arrivals blocked ([c_] : List gCrew) 0 exits).1.mine.Airways.map gAirway.v), .sl 1 ((m_impl_escapeOf m_ arrivals blocked ([c_] : List gCrew) 0 exits).1.arrivals.map (V.int .i64)), .int .i64 (m_impl_escapeOf m_ arrivals blocked ([c_] : List gCrew) 0 exits).1.blocked], .rp [.str c_.Id, .int .i64 c_.Junction, .int .i64 c_.Speed], .rp [.sl 1 (exits.map (V.int .i64))]] en_35 rfl (fun y => 0 ≤ y ∧ y ≤ 36000) (fun a0 hq0 => c_impl_LastStart_1 a0 (m_impl_escapeOf m_ arrivals blocked ([c_] : List gCrew) 0 exits).1 c_ exits (by (try dsimp only at *); (exact escapeOf_impM (by assumption))) (by (try dsimp only at *); (exact escapeOf_impL (by assumption))) (by (try dsimp only at *); (exact escapeOf_impC (by assumption))) (by (try dsimp only at *); omega) (by (try dsimp only at *); (exact lsE (by assumption)))) (by omega) (by omega)) rfl (fun _ => rfl) rfl <|
        q_move .n (.t rfl) rfl <|
        q_ext .n (.t rfl) rfl rfl rfl <|
        q_ext .n (.t rfl) rfl rfl rfl <|
        q_assign .n (.t rfl) rfl <|
        q_assign .n (.t rfl) rfl <|
        Lex.nil) ?_
    refine run_seq ?_
    refine run_seq ?_
    refine run_region (q_move .n (.t rfl) rfl <|
        q_not .n (.t rfl) rfl <|
        Lex.nil) ?_
    refine run_cond (.t rfl) rfl (fun h5 => ?_) (fun h5 => ?_)
    · try simp only [Bool.and_eq_true, Bool.or_eq_true, Bool.not_eq_true', Bool.and_eq_false_iff, Bool.or_eq_false_iff, Bool.not_eq_false', decide_eq_true_eq, decide_eq_false_iff_not, beq_iff_eq, bne_iff_ne, beq_eq_false_iff_ne, bne_eq_false_iff_eq, Bool.true_and, ne_eq, Decidable.not_not, Int.not_lt, Int.not_le, Nat.not_lt, Nat.not_le, strB_nil, strB_nil', strB_nnil, strB_nnil'] at h5
      refine run_seq ?_
      refine run_region (q_assign .n (.c rfl) rfl <|
          q_assign .n (.c rfl) rfl <|
          Lex.nil) ?_
      exact run_ret [] (.cons (.t rfl rfl) (.cons (.t rfl rfl) .nil)) rfl trivial rfl
    · try simp only [Bool.and_eq_true, Bool.or_eq_true, Bool.not_eq_true', Bool.and_eq_false_iff, Bool.or_eq_false_iff, Bool.not_eq_false', decide_eq_true_eq, decide_eq_false_iff_not, beq_iff_eq, bne_iff_ne, beq_eq_false_iff_ne, bne_eq_false_iff_eq, Bool.true_and, ne_eq, Decidable.not_not, Int.not_lt, Int.not_le, Nat.not_lt, Nat.not_le, strB_nil, strB_nil', strB_nnil, strB_nnil'] at h5
      refine run_skip ?_
      refine run_seq ?_
      refine run_region (q_move .n (.t rfl) rfl <|
          q_int .n (.t rfl) (.c rfl) rfl rfl <|
          q_move .n (.t rfl) rfl <|
          q_int .n (.t rfl) (.c rfl) rfl rfl <|
          q_call0 (full := false) .n .f en_38 (.cons (.t rfl) (.cons (.t rfl) .nil)) (.cons (.b (.a (.same rfl))) (.cons (.b (.a (.same rfl))) .nil)) (fun hg => c_impl_orNotFound (IntKind.wrap .i64 ((m_impl_firstIn 0 36000 (fun (a0 : Int) => m_impl_LastStart_1 a0 (m_impl_escapeOf m_ arrivals blocked ([c_] : List gCrew) 0 exits).1 c_ exits)).1 - 1)) (decide (0 < (m_impl_firstIn 0 36000 (fun (a0 : Int) => m_impl_LastStart_1 a0 (m_impl_escapeOf m_ arrivals blocked ([c_] : List gCrew) 0 exits).1 c_ exits)).1))) rfl (fun h => Bool.noConfusion h) rfl <|
          q_ext .n (.t rfl) rfl rfl rfl <|
          q_ext .n (.t rfl) rfl rfl rfl <|
          q_assign .n (.t rfl) rfl <|
          q_assign .n (.t rfl) rfl <|
          Lex.nil) ?_
      exact run_ret [] (.cons (.t rfl rfl) (.cons (.t rfl rfl) .nil)) rfl trivial rfl

/-! ### spec_l19One -/
theorem c_spec_l19One (c_ : gCrew) : Con Try.prog 81 [.rp [.str c_.Id, .int .i64 c_.Junction, .int .i64 c_.Speed]] [] (.bool (m_spec_l19One c_)) ([]) := by
  refine con_intro (out := fun r : Bool => ((.bool r : V), ([] : List (Nat × Option O)))) (r := (m_spec_l19One c_)) Try.func81 rfl Try.ntmps81 rfl ?_
  refine run_seq ?_
  refine run_region (q_assign .n (.c rfl) rfl <|
      Lex.nil) ?_
  refine run_seq ?_
  refine run_region (q_move .n (.t rfl) rfl <|
      q_nilc_ro .n (.t rfl) rfl <|
      q_fld_ro .n (.t rfl) fo_34_0 rfl <|
      q_ld1_ro .n (.t rfl) rfl ic_9 rfl <|
      q_call0 (full := false) .n .f en_121 (.cons (.t rfl) .nil) (.cons (.b (.a (.same rfl))) .nil) (fun hg => c_spec_l01Name c_.Id) rfl (fun h => Bool.noConfusion h) rfl <|
      q_move .n (.t rfl) rfl <|
      q_move (.t rfl rfl) (.t rfl) rfl <|
      q_nilc_ro (.t rfl rfl) (.u rfl id) rfl <|
      q_fld_ro (.t rfl rfl) (.u rfl id) fo_34_1 rfl <|
      q_ld1_ro (.t rfl rfl) (.u rfl id) rfl ic_2 rfl <|
      q_call0 (full := false) (.t rfl rfl) .f en_82 (.cons (.u rfl id) (.cons (.c rfl) (.cons (.c rfl) .nil))) (.cons (.b (.a (.same rfl))) (.cons (.b (.a (.same rfl))) (.cons (.b (.a (.same rfl))) .nil))) (fun hg => c_spec_l00In c_.Junction 0 15) rfl (fun h => Bool.noConfusion h) rfl <|
      q_and .n (.t rfl) (.u rfl id) rfl <|
      q_move .n (.t rfl) rfl <|
      q_move (.t rfl rfl) (.t rfl) rfl <|
      q_nilc_ro (.t rfl rfl) (.u rfl id) rfl <|
      q_fld_ro (.t rfl rfl) (.u rfl id) fo_34_2 rfl <|
      q_ld1_ro (.t rfl rfl) (.u rfl id) rfl ic_2 rfl <|
      q_call0 (full := false) (.t rfl rfl) .f en_82 (.cons (.u rfl id) (.cons (.c rfl) (.cons (.c rfl) .nil))) (.cons (.b (.a (.same rfl))) (.cons (.b (.a (.same rfl))) (.cons (.b (.a (.same rfl))) .nil))) (fun hg => c_spec_l00In c_.Speed 10 300) rfl (fun h => Bool.noConfusion h) rfl <|
      q_and .n (.t rfl) (.u rfl id) rfl <|
      q_assign .n (.t rfl) rfl <|
      Lex.nil) ?_
  exact run_ret [] (.cons (.t rfl rfl) .nil) rfl trivial rfl

/-! ### spec_l17Time -/
theorem c_spec_l17Time (t : Int) : Con Try.prog 83 [.int .i64 t] [] (.bool (m_spec_l17Time t)) ([]) := by
  refine con_intro (out := fun r : Bool => ((.bool r : V), ([] : List (Nat × Option O)))) (r := (m_spec_l17Time t)) Try.func83 rfl Try.ntmps83 rfl ?_
  refine run_seq ?_
  refine run_region (q_assign .n (.c rfl) rfl <|
      Lex.nil) ?_
  refine run_seq ?_
  refine run_region (q_move .n (.t rfl) rfl <|
      q_call0 (full := false) .n .f en_82 (.cons (.t rfl) (.cons (.c rfl) (.cons (.c rfl) .nil))) (.cons (.b (.a (.same rfl))) (.cons (.b (.a (.same rfl))) (.cons (.b (.a (.same rfl))) .nil))) (fun hg => c_spec_l00In t 0 36000) rfl (fun h => Bool.noConfusion h) rfl <|
      q_assign .n (.t rfl) rfl <|
      Lex.nil) ?_
  exact run_ret [] (.cons (.t rfl rfl) .nil) rfl trivial rfl

/-! ### spec_l19Arrivals -/
theorem c_spec_l19Arrivals (m_ : gMine) (arrivals : List Int) : Con Try.prog 84 [.rp [.int .i64 m_.Junctions, .sl 7 (m_.Airways.map gAirway.v)], .sl 1 (arrivals.map (V.int .i64))] [] (.bool (m_spec_l19Arrivals m_ arrivals)) ([]) := by
  refine con_intro (out := fun r : Bool => ((.bool r : V), ([] : List (Nat × Option O)))) (r := (m_spec_l19Arrivals m_ arrivals)) Try.func84 rfl Try.ntmps84 rfl ?_
  refine run_factP (t := 0) 1 rfl rfl fun hl => ?_
  have l1 := hl; clear hl; simp only [List.length_map] at l1
  refine run_fact (t := 1) rfl fun hl => ?_
  have l2 := hl; clear hl; simp only [List.length_map] at l2
  refine run_seq ?_
  refine run_region (q_assign .n (.c rfl) rfl <|
      Lex.nil) ?_
  refine run_seq ?_
  refine run_seq ?_
  refine run_region (q_assign .n (.c rfl) rfl <|
      Lex.nil) ?_
  refine run_block ?_
  refine run_LOOP (m_spec_l19Arrivals_b1 m_ arrivals) _ _ _ rfl (fun (x1 : Int) => 0 ≤ x1 ∧ x1 ≤ (arrivals.length : Int)) (fun x1 => 0 ≤ x1 ∧ x1 ≤ (arrivals.length : Int) ∧ (arrivals.length : Int) ≤ x1) (fun x1 => ((arrivals.length : Int) - x1 : Int).toNat) (fun x1 => ⟨[(0, some (true, .rp [.int .i64 m_.Junctions, .sl 7 (m_.Airways.map gAirway.v)])), (1, some (true, .sl 1 (arrivals.map (V.int .i64)))), (5, some (true, .int .i64 x1))], []⟩) (fun x1 => ⟨[(0, some (true, .rp [.int .i64 m_.Junctions, .sl 7 (m_.Airways.map gAirway.v)])), (1, some (true, .sl 1 (arrivals.map (V.int .i64))))], []⟩) ⟨by omega, by omega⟩ (by omega) (sub_of [] ⟨rfl, rfl, rfl, trivial⟩ trivial rfl) ?_ ?_
  · intro x1 i7
    obtain ⟨e8, e9, e10⟩ := i7
    try dsimp only at *
    refine run_seq ?_
    refine run_region (q_move .n (.t rfl) rfl <|
        q_len .n (.t rfl) rfl len_map ss_28 rfl <|
        q_move .n (.t rfl) rfl <|
        q_nilc_ro .n (.t rfl) rfl <|
        q_fld_ro .n (.t rfl) fo_26_0 rfl <|
        q_ld1_ro .n (.t rfl) rfl ic_2 rfl <|
        q_int .n (.t rfl) (.t rfl) rfl rfl <|
        q_assign .n (.t rfl) rfl <|
        Lex.nil) ?_
    exact run_ret [] (.cons (.t rfl rfl) .nil) rfl trivial rfl
  · intro rec1 k1 hk3 x1 i4
    obtain ⟨e11, e12⟩ := i4
    try dsimp only at *
    refine run_seq ?_
    refine run_seq ?_
    refine run_region (q_move .n (.t rfl) rfl <|
        q_move .n (.t rfl) rfl <|
        q_len .n (.t rfl) rfl len_map ss_28 rfl <|
        q_int .n (.t rfl) (.t rfl) rfl rfl <|
        Lex.nil) ?_
    refine run_cond (.t rfl) rfl (fun h5 => ?_) (fun h5 => ?_)
    · try simp only [Bool.and_eq_true, Bool.or_eq_true, Bool.not_eq_true', Bool.and_eq_false_iff, Bool.or_eq_false_iff, Bool.not_eq_false', decide_eq_true_eq, decide_eq_false_iff_not, beq_iff_eq, bne_iff_ne, beq_eq_false_iff_ne, bne_eq_false_iff_eq, Bool.true_and, ne_eq, Decidable.not_not, Int.not_lt, Int.not_le, Nat.not_lt, Nat.not_le, strB_nil, strB_nil', strB_nnil, strB_nnil'] at h5
      refine run_skip ?_
      refine run_seq ?_
      refine run_block ?_
      refine run_seq ?_
      refine run_region (q_move .n (.t rfl) rfl <|
          q_move .n (.t rfl) rfl <|
          q_idx_rm .n (.t rfl) (.t rfl) sl_28 (fun _ => by omega) rfl <|
          q_ld1_ro .n (.t rfl) rfl ic_2 rfl <|
          q_call0 (full := false) .n .f en_82 (.cons (.t rfl) (.cons (.c rfl) (.cons (.c rfl) .nil))) (.cons (.b (.a (.same rfl))) (.cons (.b (.a (.same rfl))) (.cons (.b (.a (.same rfl))) .nil))) (fun hg => c_spec_l00In (at' arrivals x1) (-1) 1000000000000) rfl (fun h => Bool.noConfusion h) rfl <|
          q_not .n (.t rfl) rfl <|
          Lex.nil) ?_
      refine run_cond (.t rfl) rfl (fun h6 => ?_) (fun h6 => ?_)
      · try simp only [Bool.and_eq_true, Bool.or_eq_true, Bool.not_eq_true', Bool.and_eq_false_iff, Bool.or_eq_false_iff, Bool.not_eq_false', decide_eq_true_eq, decide_eq_false_iff_not, beq_iff_eq, bne_iff_ne, beq_eq_false_iff_ne, bne_eq_false_iff_eq, Bool.true_and, ne_eq, Decidable.not_not, Int.not_lt, Int.not_le, Nat.not_lt, Nat.not_le, strB_nil, strB_nil', strB_nnil, strB_nnil'] at h6
        try have hf0h6 := l00In_imp h6
        try have hf1h6 := l00In_imp h6.1
        try have hf2h6 := l00In_imp h6.2
        try have hf3h6 := l00In_imp h6.1.1
        try have hf4h6 := l00In_imp h6.1.2
        try have hf5h6 := l00In_imp h6.2.1
        try have hf6h6 := l00In_imp h6.2.2
        refine run_seq ?_
        refine run_region (q_assign .n (.c rfl) rfl <|
            Lex.nil) ?_
        exact run_ret [] (.cons (.t rfl rfl) .nil) rfl trivial rfl
      · try simp only [Bool.and_eq_true, Bool.or_eq_true, Bool.not_eq_true', Bool.and_eq_false_iff, Bool.or_eq_false_iff, Bool.not_eq_false', decide_eq_true_eq, decide_eq_false_iff_not, beq_iff_eq, bne_iff_ne, beq_eq_false_iff_ne, bne_eq_false_iff_eq, Bool.true_and, ne_eq, Decidable.not_not, Int.not_lt, Int.not_le, Nat.not_lt, Nat.not_le, strB_nil, strB_nil', strB_nnil, strB_nnil'] at h6
        try have hf0h6 := l00In_imp h6
        try have hf1h6 := l00In_imp h6.1
        try have hf2h6 := l00In_imp h6.2
        try have hf3h6 := l00In_imp h6.1.1
        try have hf4h6 := l00In_imp h6.1.2
        try have hf5h6 := l00In_imp h6.2.1
        try have hf6h6 := l00In_imp h6.2.2
        refine run_skip ?_
        refine run_endB ?_
        refine run_region (q_move .n (.t rfl) rfl <|
            q_add .n (.t rfl) (.c rfl) (fun _ => by omega) rfl <|
            q_assign .n (.t rfl) rfl <|
            Lex.nil) ?_
        exact run_again (x1 + 1) ⟨by omega, by omega⟩ (by omega) (sub_of [] ⟨rfl, rfl, rfl, trivial⟩ trivial rfl)
    · try simp only [Bool.and_eq_true, Bool.or_eq_true, Bool.not_eq_true', Bool.and_eq_false_iff, Bool.or_eq_false_iff, Bool.not_eq_false', decide_eq_true_eq, decide_eq_false_iff_not, beq_iff_eq, bne_iff_ne, beq_eq_false_iff_ne, bne_eq_false_iff_eq, Bool.true_and, ne_eq, Decidable.not_not, Int.not_lt, Int.not_le, Nat.not_lt, Nat.not_le, strB_nil, strB_nil', strB_nnil, strB_nnil'] at h5
      refine run_exit rfl ?_
      exact run_cont hk3 x1 ⟨by omega, by omega, by omega⟩ (sub_of [] ⟨rfl, rfl, trivial⟩ trivial rfl)

/-! ### spec_l19Ask -/
theorem c_spec_l19Ask (m_ : gMine) (arrivals : List Int) (blocked : Int) (c_ : gCrew) (start : Int) : Con Try.prog 39 [.rp [.int .i64 m_.Junctions, .sl 7 (m_.Airways.map gAirway.v)], .sl 1 (arrivals.map (V.int .i64)), .int .i64 blocked, .rp [.str c_.Id, .int .i64 c_.Junction, .int .i64 c_.Speed], .int .i64 start] [] (.int .i64 (m_spec_l19Ask m_ arrivals blocked c_ start)) ([]) := by
  refine con_intro (out := fun r : Int => ((.int .i64 r : V), ([] : List (Nat × Option O)))) (r := (m_spec_l19Ask m_ arrivals blocked c_ start)) Try.func39 rfl Try.ntmps39 rfl ?_
  refine run_factP (t := 0) 1 rfl rfl fun hl => ?_
  have l1 := hl; clear hl; simp only [List.length_map] at l1
  refine run_fact (t := 1) rfl fun hl => ?_
  have l2 := hl; clear hl; simp only [List.length_map] at l2
  refine run_seq ?_
  refine run_region (q_assign .n (.c rfl) rfl <|
      Lex.nil) ?_
  refine run_seq ?_
  refine run_seq ?_
  refine run_draw fmo (q_move .n (.t rfl) rfl <|
      q_call0 (full := false) .n .f en_68 (.cons (.t rfl) .nil) (.cons (.b (.a (.same rfl))) .nil) (fun hg => c_spec_l04Ok m_) rfl (fun h => Bool.noConfusion h) rfl <|
      q_not .n (.t rfl) rfl <|
      q_move .n (.t rfl) rfl <|
      q_move (.f rfl rfl) (.t rfl) rfl <|
      q_call0 (full := false) (.f rfl rfl) .f en_81 (.cons (.u rfl id) .nil) (.cons (.b (.a (.same rfl))) .nil) (fun hg => c_spec_l19One c_) rfl (fun h => Bool.noConfusion h) rfl <|
      q_not (.f rfl rfl) (.u rfl id) rfl <|
      q_or .n (.t rfl) (.u rfl id) rfl <|
      q_move .n (.t rfl) rfl <|
      q_move (.f rfl rfl) (.t rfl) rfl <|
      q_nilc_ro (.f rfl rfl) (.u rfl id) rfl <|
      q_fld_ro (.f rfl rfl) (.u rfl id) fo_34_1 rfl <|
      q_ld1_ro (.f rfl rfl) (.u rfl id) rfl ic_2 rfl <|
      q_move (.f rfl rfl) (.t rfl) rfl <|
      q_nilc_ro (.f rfl rfl) (.u rfl id) rfl <|
      q_fld_ro (.f rfl rfl) (.u rfl id) fo_26_0 rfl <|
      q_ld1_ro (.f rfl rfl) (.u rfl id) rfl ic_2 rfl <|
      q_int (.f rfl rfl) (.u rfl id) (.u rfl id) rfl rfl <|
      q_or .n (.t rfl) (.u rfl id) rfl <|
      Lex.nil) (by kernel_rfl) ?_
  refine run_cond (.t rfl) rfl (fun h3 => ?_) (fun h3 => ?_)
  · try simp only [Bool.and_eq_true, Bool.or_eq_true, Bool.not_eq_true', Bool.and_eq_false_iff, Bool.or_eq_false_iff, Bool.not_eq_false', decide_eq_true_eq, decide_eq_false_iff_not, beq_iff_eq, bne_iff_ne, beq_eq_false_iff_ne, bne_eq_false_iff_eq, Bool.true_and, ne_eq, Decidable.not_not, Int.not_lt, Int.not_le, Nat.not_lt, Nat.not_le, strB_nil, strB_nil', strB_nnil, strB_nnil'] at h3
    try have hf0h3 := l04Ok_imp h3
    try have hf1h3 := l04Ok_imp h3.1
    try have hf2h3 := l04Ok_imp h3.2
    try have hf3h3 := l04Ok_imp h3.1.1
    try have hf4h3 := l04Ok_imp h3.1.2
    try have hf5h3 := l04Ok_imp h3.2.1
    try have hf6h3 := l04Ok_imp h3.2.2
    refine run_seq ?_
    refine run_region (q_assign .n (.c rfl) rfl <|
        Lex.nil) ?_
    exact run_ret [] (.cons (.t rfl rfl) .nil) rfl trivial rfl
  · try simp only [Bool.and_eq_true, Bool.or_eq_true, Bool.not_eq_true', Bool.and_eq_false_iff, Bool.or_eq_false_iff, Bool.not_eq_false', decide_eq_true_eq, decide_eq_false_iff_not, beq_iff_eq, bne_iff_ne, beq_eq_false_iff_ne, bne_eq_false_iff_eq, Bool.true_and, ne_eq, Decidable.not_not, Int.not_lt, Int.not_le, Nat.not_lt, Nat.not_le, strB_nil, strB_nil', strB_nnil, strB_nnil'] at h3
    try have hf0h3 := l04Ok_imp h3
    try have hf1h3 := l04Ok_imp h3.1
    try have hf2h3 := l04Ok_imp h3.2
    try have hf3h3 := l04Ok_imp h3.1.1
    try have hf4h3 := l04Ok_imp h3.1.2
    try have hf5h3 := l04Ok_imp h3.2.1
    try have hf6h3 := l04Ok_imp h3.2.2
    refine run_skip ?_
    refine run_seq ?_
    refine run_seq ?_
    refine run_region (q_move .n (.t rfl) rfl <|
        q_move .n (.t rfl) rfl <|
        q_nilc_ro .n (.t rfl) rfl <|
        q_fld_ro .n (.t rfl) fo_26_1 rfl <|
        q_ld1_ro .n (.t rfl) rfl ic_24 rfl <|
        q_len .n (.t rfl) rfl len_map ss_24 rfl <|
        q_sub .n (.t rfl) (.c rfl) (fun _ => by omega) rfl <|
        q_call0 (full := false) .n .f en_82 (.cons (.t rfl) (.cons (.c rfl) (.cons (.t rfl) .nil))) (.cons (.b (.a (.same rfl))) (.cons (.b (.a (.same rfl))) (.cons (.b (.a (.same rfl))) .nil))) (fun hg => c_spec_l00In blocked (-1) ((m_.Airways.length : Int) - 1)) rfl (fun h => Bool.noConfusion h) rfl <|
        q_not .n (.t rfl) rfl <|
        q_move .n (.t rfl) rfl <|
        q_move (.f rfl rfl) (.t rfl) rfl <|
        q_call0 (full := false) (.f rfl rfl) .f en_83 (.cons (.u rfl id) .nil) (.cons (.b (.a (.same rfl))) .nil) (fun hg => c_spec_l17Time start) rfl (fun h => Bool.noConfusion h) rfl <|
        q_not (.f rfl rfl) (.u rfl id) rfl <|
        q_or .n (.t rfl) (.u rfl id) rfl <|
        Lex.nil) ?_
    refine run_cond (.t rfl) rfl (fun h4 => ?_) (fun h4 => ?_)
    · try simp only [Bool.and_eq_true, Bool.or_eq_true, Bool.not_eq_true', Bool.and_eq_false_iff, Bool.or_eq_false_iff, Bool.not_eq_false', decide_eq_true_eq, decide_eq_false_iff_not, beq_iff_eq, bne_iff_ne, beq_eq_false_iff_ne, bne_eq_false_iff_eq, Bool.true_and, ne_eq, Decidable.not_not, Int.not_lt, Int.not_le, Nat.not_lt, Nat.not_le, strB_nil, strB_nil', strB_nnil, strB_nnil'] at h4
      try have hf0h4 := l00In_imp h4
      try have hf1h4 := l00In_imp h4.1
      try have hf2h4 := l00In_imp h4.2
      try have hf3h4 := l00In_imp h4.1.1
      try have hf4h4 := l00In_imp h4.1.2
      try have hf5h4 := l00In_imp h4.2.1
      try have hf6h4 := l00In_imp h4.2.2
      try have hf7h4 := l17Time_imp h4
      try have hf8h4 := l17Time_imp h4.1
      try have hf9h4 := l17Time_imp h4.2
      try have hf10h4 := l17Time_imp h4.1.1
      try have hf11h4 := l17Time_imp h4.1.2
      try have hf12h4 := l17Time_imp h4.2.1
      try have hf13h4 := l17Time_imp h4.2.2
      refine run_seq ?_
      refine run_region (q_assign .n (.c rfl) rfl <|
          Lex.nil) ?_
      exact run_ret [] (.cons (.t rfl rfl) .nil) rfl trivial rfl
    · try simp only [Bool.and_eq_true, Bool.or_eq_true, Bool.not_eq_true', Bool.and_eq_false_iff, Bool.or_eq_false_iff, Bool.not_eq_false', decide_eq_true_eq, decide_eq_false_iff_not, beq_iff_eq, bne_iff_ne, beq_eq_false_iff_ne, bne_eq_false_iff_eq, Bool.true_and, ne_eq, Decidable.not_not, Int.not_lt, Int.not_le, Nat.not_lt, Nat.not_le, strB_nil, strB_nil', strB_nnil, strB_nnil'] at h4
      try have hf0h4 := l00In_imp h4
      try have hf1h4 := l00In_imp h4.1
      try have hf2h4 := l00In_imp h4.2
      try have hf3h4 := l00In_imp h4.1.1
      try have hf4h4 := l00In_imp h4.1.2
      try have hf5h4 := l00In_imp h4.2.1
      try have hf6h4 := l00In_imp h4.2.2
      try have hf7h4 := l17Time_imp h4
      try have hf8h4 := l17Time_imp h4.1
      try have hf9h4 := l17Time_imp h4.2
      try have hf10h4 := l17Time_imp h4.1.1
      try have hf11h4 := l17Time_imp h4.1.2
      try have hf12h4 := l17Time_imp h4.2.1
      try have hf13h4 := l17Time_imp h4.2.2
      refine run_skip ?_
      refine run_seq ?_
      refine run_seq ?_
      refine run_region (q_move .n (.t rfl) rfl <|
          q_move .n (.t rfl) rfl <|
          q_call0 (full := false) .n .f en_84 (.cons (.t rfl) (.cons (.t rfl) .nil)) (.cons (.b (.a (.same rfl))) (.cons (.b (.a (.same rfl))) .nil)) (fun hg => c_spec_l19Arrivals m_ arrivals) rfl (fun h => Bool.noConfusion h) rfl <|
          q_not .n (.t rfl) rfl <|
          Lex.nil) ?_
      refine run_cond (.t rfl) rfl (fun h5 => ?_) (fun h5 => ?_)
      · try simp only [Bool.and_eq_true, Bool.or_eq_true, Bool.not_eq_true', Bool.and_eq_false_iff, Bool.or_eq_false_iff, Bool.not_eq_false', decide_eq_true_eq, decide_eq_false_iff_not, beq_iff_eq, bne_iff_ne, beq_eq_false_iff_ne, bne_eq_false_iff_eq, Bool.true_and, ne_eq, Decidable.not_not, Int.not_lt, Int.not_le, Nat.not_lt, Nat.not_le, strB_nil, strB_nil', strB_nnil, strB_nnil'] at h5
        try have hf0h5 := l19Arr_imp h5
        try have hf1h5 := l19Arr_imp h5.1
        try have hf2h5 := l19Arr_imp h5.2
        try have hf3h5 := l19Arr_imp h5.1.1
        try have hf4h5 := l19Arr_imp h5.1.2
        try have hf5h5 := l19Arr_imp h5.2.1
        try have hf6h5 := l19Arr_imp h5.2.2
        refine run_seq ?_
        refine run_region (q_assign .n (.c rfl) rfl <|
            Lex.nil) ?_
        exact run_ret [] (.cons (.t rfl rfl) .nil) rfl trivial rfl
      · try simp only [Bool.and_eq_true, Bool.or_eq_true, Bool.not_eq_true', Bool.and_eq_false_iff, Bool.or_eq_false_iff, Bool.not_eq_false', decide_eq_true_eq, decide_eq_false_iff_not, beq_iff_eq, bne_iff_ne, beq_eq_false_iff_ne, bne_eq_false_iff_eq, Bool.true_and, ne_eq, Decidable.not_not, Int.not_lt, Int.not_le, Nat.not_lt, Nat.not_le, strB_nil, strB_nil', strB_nnil, strB_nnil'] at h5
        try have hf0h5 := l19Arr_imp h5
        try have hf1h5 := l19Arr_imp h5.1
        try have hf2h5 := l19Arr_imp h5.2
        try have hf3h5 := l19Arr_imp h5.1.1
        try have hf4h5 := l19Arr_imp h5.1.2
        try have hf5h5 := l19Arr_imp h5.2.1
        try have hf6h5 := l19Arr_imp h5.2.2
        refine run_skip ?_
        refine run_seq ?_
        refine run_region (q_assign .n (.c rfl) rfl <|
            Lex.nil) ?_
        exact run_ret [] (.cons (.t rfl rfl) .nil) rfl trivial rfl

/-! ### spec_l00Rises -/
theorem c_spec_l00Rises (list : List Int) (low : Int) (high : Int) : Con Try.prog 40 [.sl 1 (list.map (V.int .i64)), .int .i64 low, .int .i64 high] [] (.bool (m_spec_l00Rises list low high)) ([]) := by
  refine con_intro (out := fun r : Bool => ((.bool r : V), ([] : List (Nat × Option O)))) (r := (m_spec_l00Rises list low high)) Try.func40 rfl Try.ntmps40 rfl ?_
  refine run_fact (t := 0) rfl fun hl => ?_
  have l1 := hl; clear hl; simp only [List.length_map] at l1
  refine run_seq ?_
  refine run_region (q_assign .n (.c rfl) rfl <|
      Lex.nil) ?_
  refine run_seq ?_
  refine run_seq ?_
  refine run_region (q_assign .n (.c rfl) rfl <|
      Lex.nil) ?_
  refine run_block ?_
  refine run_LOOP (m_spec_l00Rises_b1 list low high) _ _ _ rfl (fun (x1 : Int) => 0 ≤ x1 ∧ x1 ≤ (list.length : Int)) (fun x1 => 0 ≤ x1 ∧ x1 ≤ (list.length : Int) ∧ (list.length : Int) ≤ x1) (fun x1 => ((list.length : Int) - x1 : Int).toNat) (fun x1 => ⟨[(0, some (true, .sl 1 (list.map (V.int .i64)))), (1, some (true, .int .i64 low)), (2, some (true, .int .i64 high)), (7, some (true, .int .i64 x1))], []⟩) (fun x1 => ⟨[], []⟩) ⟨by omega, by omega⟩ (by omega) (sub_of [] ⟨rfl, rfl, rfl, rfl, trivial⟩ trivial rfl) ?_ ?_
  · intro x1 i6
    obtain ⟨e7, e8, e9⟩ := i6
    try dsimp only at *
    refine run_seq ?_
    refine run_region (q_assign .n (.c rfl) rfl <|
        Lex.nil) ?_
    exact run_ret [] (.cons (.t rfl rfl) .nil) rfl trivial rfl
  · intro rec1 k1 hk2 x1 i3
    obtain ⟨e10, e11⟩ := i3
    try dsimp only at *
    refine run_seq ?_
    refine run_seq ?_
    refine run_region (q_move .n (.t rfl) rfl <|
        q_move .n (.t rfl) rfl <|
        q_len .n (.t rfl) rfl len_map ss_28 rfl <|
        q_int .n (.t rfl) (.t rfl) rfl rfl <|
        Lex.nil) ?_
    refine run_cond (.t rfl) rfl (fun h4 => ?_) (fun h4 => ?_)
    · try simp only [Bool.and_eq_true, Bool.or_eq_true, Bool.not_eq_true', Bool.and_eq_false_iff, Bool.or_eq_false_iff, Bool.not_eq_false', decide_eq_true_eq, decide_eq_false_iff_not, beq_iff_eq, bne_iff_ne, beq_eq_false_iff_ne, bne_eq_false_iff_eq, Bool.true_and, ne_eq, Decidable.not_not, Int.not_lt, Int.not_le, Nat.not_lt, Nat.not_le, strB_nil, strB_nil', strB_nnil, strB_nnil'] at h4
      refine run_skip ?_
      refine run_seq ?_
      refine run_block ?_
      refine run_seq ?_
      refine run_draw fmo (q_move .n (.t rfl) rfl <|
          q_move .n (.t rfl) rfl <|
          q_idx_rm .n (.t rfl) (.t rfl) sl_28 (fun _ => by omega) rfl <|
          q_ld1_ro .n (.t rfl) rfl ic_2 rfl <|
          q_move .n (.t rfl) rfl <|
          q_move .n (.t rfl) rfl <|
          q_call0 (full := false) .n .f en_82 (.cons (.t rfl) (.cons (.t rfl) (.cons (.t rfl) .nil))) (.cons (.b (.a (.same rfl))) (.cons (.b (.a (.same rfl))) (.cons (.b (.a (.same rfl))) .nil))) (fun hg => c_spec_l00In (at' list x1) low high) rfl (fun h => Bool.noConfusion h) rfl <|
          q_not .n (.t rfl) rfl <|
          q_move .n (.t rfl) rfl <|
          q_move (.f rfl rfl) (.t rfl) rfl <|
          q_int (.f rfl rfl) (.u rfl id) (.c rfl) rfl rfl <|
          q_move (.f rfl rfl) (.u rfl id) rfl <|
          q_move (.t rfl rfl) (.t rfl) rfl <|
          q_move (.t rfl rfl) (.t rfl) rfl <|
          q_sub (.t rfl rfl) (.u rfl id) (.c rfl) (fun hg => by simp only [Bool.and_eq_true, Bool.or_eq_true, Bool.not_eq_true', Bool.and_eq_false_iff, Bool.or_eq_false_iff, Bool.not_eq_false', decide_eq_true_eq, decide_eq_false_iff_not, beq_iff_eq, bne_iff_ne, beq_eq_false_iff_ne, bne_eq_false_iff_eq, Bool.true_and, ne_eq, Decidable.not_not, Int.not_lt, Int.not_le, Nat.not_lt, Nat.not_le, strB_nil, strB_nil', strB_nnil, strB_nnil'] at hg; omega) rfl <|
          q_idx_rm (.t rfl rfl) (.u rfl id) (.u rfl id) sl_28 (fun hg => by simp only [Bool.and_eq_true, Bool.or_eq_true, Bool.not_eq_true', Bool.and_eq_false_iff, Bool.or_eq_false_iff, Bool.not_eq_false', decide_eq_true_eq, decide_eq_false_iff_not, beq_iff_eq, bne_iff_ne, beq_eq_false_iff_ne, bne_eq_false_iff_eq, Bool.true_and, ne_eq, Decidable.not_not, Int.not_lt, Int.not_le, Nat.not_lt, Nat.not_le, strB_nil, strB_nil', strB_nnil, strB_nnil'] at hg; omega) rfl <|
          q_ld1_ro (.t rfl rfl) (.u rfl id) rfl ic_2 rfl <|
          q_move (.t rfl rfl) (.t rfl) rfl <|
          q_move (.t rfl rfl) (.t rfl) rfl <|
          q_idx_rm (.t rfl rfl) (.u rfl id) (.u rfl id) sl_28 (fun hg => by simp only [Bool.and_eq_true, Bool.or_eq_true, Bool.not_eq_true', Bool.and_eq_false_iff, Bool.or_eq_false_iff, Bool.not_eq_false', decide_eq_true_eq, decide_eq_false_iff_not, beq_iff_eq, bne_iff_ne, beq_eq_false_iff_ne, bne_eq_false_iff_eq, Bool.true_and, ne_eq, Decidable.not_not, Int.not_lt, Int.not_le, Nat.not_lt, Nat.not_le, strB_nil, strB_nil', strB_nnil, strB_nnil'] at hg; omega) rfl <|
          q_ld1_ro (.t rfl rfl) (.u rfl id) rfl ic_2 rfl <|
          q_int (.t rfl rfl) (.u rfl id) (.u rfl id) rfl rfl <|
          q_and (.f rfl rfl) (.u rfl id) (.u rfl id) rfl <|
          q_or .n (.t rfl) (.u rfl id) rfl <|
          Lex.nil) (by kernel_rfl) ?_
      refine run_cond (.t rfl) rfl (fun h5 => ?_) (fun h5 => ?_)
      · try simp only [Bool.and_eq_true, Bool.or_eq_true, Bool.not_eq_true', Bool.and_eq_false_iff, Bool.or_eq_false_iff, Bool.not_eq_false', decide_eq_true_eq, decide_eq_false_iff_not, beq_iff_eq, bne_iff_ne, beq_eq_false_iff_ne, bne_eq_false_iff_eq, Bool.true_and, ne_eq, Decidable.not_not, Int.not_lt, Int.not_le, Nat.not_lt, Nat.not_le, strB_nil, strB_nil', strB_nnil, strB_nnil'] at h5
        try have hf0h5 := l00In_imp h5
        try have hf1h5 := l00In_imp h5.1
        try have hf2h5 := l00In_imp h5.2
        try have hf3h5 := l00In_imp h5.1.1
        try have hf4h5 := l00In_imp h5.1.2
        try have hf5h5 := l00In_imp h5.2.1
        try have hf6h5 := l00In_imp h5.2.2
        refine run_seq ?_
        refine run_region (q_assign .n (.c rfl) rfl <|
            Lex.nil) ?_
        exact run_ret [] (.cons (.t rfl rfl) .nil) rfl trivial rfl
      · try simp only [Bool.and_eq_true, Bool.or_eq_true, Bool.not_eq_true', Bool.and_eq_false_iff, Bool.or_eq_false_iff, Bool.not_eq_false', decide_eq_true_eq, decide_eq_false_iff_not, beq_iff_eq, bne_iff_ne, beq_eq_false_iff_ne, bne_eq_false_iff_eq, Bool.true_and, ne_eq, Decidable.not_not, Int.not_lt, Int.not_le, Nat.not_lt, Nat.not_le, strB_nil, strB_nil', strB_nnil, strB_nnil'] at h5
        try have hf0h5 := l00In_imp h5
        try have hf1h5 := l00In_imp h5.1
        try have hf2h5 := l00In_imp h5.2
        try have hf3h5 := l00In_imp h5.1.1
        try have hf4h5 := l00In_imp h5.1.2
        try have hf5h5 := l00In_imp h5.2.1
        try have hf6h5 := l00In_imp h5.2.2
        refine run_skip ?_
        refine run_endB ?_
        refine run_region (q_move .n (.t rfl) rfl <|
            q_add .n (.t rfl) (.c rfl) (fun _ => by omega) rfl <|
            q_assign .n (.t rfl) rfl <|
            Lex.nil) ?_
        exact run_again (x1 + 1) ⟨by omega, by omega⟩ (by omega) (sub_of [] ⟨rfl, rfl, rfl, rfl, trivial⟩ trivial rfl)
    · try simp only [Bool.and_eq_true, Bool.or_eq_true, Bool.not_eq_true', Bool.and_eq_false_iff, Bool.or_eq_false_iff, Bool.not_eq_false', decide_eq_true_eq, decide_eq_false_iff_not, beq_iff_eq, bne_iff_ne, beq_eq_false_iff_ne, bne_eq_false_iff_eq, Bool.true_and, ne_eq, Decidable.not_not, Int.not_lt, Int.not_le, Nat.not_lt, Nat.not_le, strB_nil, strB_nil', strB_nnil, strB_nnil'] at h4
      refine run_exit rfl ?_
      exact run_cont hk2 x1 ⟨by omega, by omega, by omega⟩ (sub_of [] trivial trivial rfl)

/-! ### spec_l19Safe -/
theorem c_spec_l19Safe (arrivals : List Int) (j : Int) (time : Int) (hp1 : 0 ≤ j ∧ j < arrivals.length) : Con Try.prog 85 [.sl 1 (arrivals.map (V.int .i64)), .int .i64 j, .int .i64 time] [] (.bool (m_spec_l19Safe arrivals j time)) ([]) := by
  refine con_intro (out := fun r : Bool => ((.bool r : V), ([] : List (Nat × Option O)))) (r := (m_spec_l19Safe arrivals j time)) Try.func85 rfl Try.ntmps85 rfl ?_
  refine run_fact (t := 0) rfl fun hl => ?_
  have l1 := hl; clear hl; simp only [List.length_map] at l1
  refine run_seq ?_
  refine run_region (q_assign .n (.c rfl) rfl <|
      Lex.nil) ?_
  refine run_seq ?_
  refine run_region (q_move .n (.t rfl) rfl <|
      q_move .n (.t rfl) rfl <|
      q_idx_rm .n (.t rfl) (.t rfl) sl_28 (fun _ => by omega) rfl <|
      q_ld1_ro .n (.t rfl) rfl ic_2 rfl <|
      q_int .n (.t rfl) (.c rfl) rfl rfl <|
      q_move .n (.t rfl) rfl <|
      q_move (.f rfl rfl) (.t rfl) rfl <|
      q_move (.f rfl rfl) (.t rfl) rfl <|
      q_move (.f rfl rfl) (.t rfl) rfl <|
      q_idx_rm (.f rfl rfl) (.u rfl id) (.u rfl id) sl_28 (fun hg => by simp only [Bool.and_eq_true, Bool.or_eq_true, Bool.not_eq_true', Bool.and_eq_false_iff, Bool.or_eq_false_iff, Bool.not_eq_false', decide_eq_true_eq, decide_eq_false_iff_not, beq_iff_eq, bne_iff_ne, beq_eq_false_iff_ne, bne_eq_false_iff_eq, Bool.true_and, ne_eq, Decidable.not_not, Int.not_lt, Int.not_le, Nat.not_lt, Nat.not_le, strB_nil, strB_nil', strB_nnil, strB_nnil'] at hg; omega) rfl <|
      q_ld1_ro (.f rfl rfl) (.u rfl id) rfl ic_2 rfl <|
      q_int (.f rfl rfl) (.u rfl id) (.u rfl id) rfl rfl <|
      q_or .n (.t rfl) (.u rfl id) rfl <|
      q_assign .n (.t rfl) rfl <|
      Lex.nil) ?_
  exact run_ret [] (.cons (.t rfl rfl) .nil) rfl trivial rfl

/-! ### spec_l19Walk -/
theorem c_spec_l19Walk (a : gAirway) (speed : Int) (hp1 : 10 ≤ speed ∧ speed ≤ 300) : Con Try.prog 86 [.rp [.str a.Id, .int .i64 a.From, .int .i64 a.To, .int .i64 a.Length, .int .i64 a.Section, .int .i64 a.Friction, .int .i64 a.Shock], .int .i64 speed] [] (.int .i64 (m_spec_l19Walk a speed)) ([]) := by
  refine con_intro (out := fun r : Int => ((.int .i64 r : V), ([] : List (Nat × Option O)))) (r := (m_spec_l19Walk a speed)) Try.func86 rfl Try.ntmps86 rfl ?_
  refine run_seq ?_
  refine run_region (q_assign .n (.c rfl) rfl <|
      Lex.nil) ?_
  refine run_seq ?_
  refine run_region (q_move .n (.t rfl) rfl <|
      q_nilc_ro .n (.t rfl) rfl <|
      q_fld_ro .n (.t rfl) fo_46_3 rfl <|
      q_ld1_ro .n (.t rfl) rfl ic_2 rfl <|
      q_int .n (.c rfl) (.t rfl) rfl rfl <|
      q_move .n (.t rfl) rfl <|
      q_int .n (.t rfl) (.t rfl) rfl rfl <|
      q_int .n (.t rfl) (.c rfl) rfl rfl <|
      q_move .n (.t rfl) rfl <|
      q_quo .n (.t rfl) (.t rfl) (fun hg => by omega) rfl <|
      q_assign .n (.t rfl) rfl <|
      Lex.nil) ?_
  exact run_ret [] (.cons (.t rfl rfl) .nil) rfl trivial rfl

/-! ### spec_l19Go -/
theorem c_spec_l19Go (arrivals : List Int) (times : List Int) (from_ : Int) (to : Int) (n_ : Int) (hp1 : 0 ≤ from_ ∧ from_ < times.length) (hp2 : 0 ≤ to ∧ to < times.length) (hp3 : times.length = arrivals.length) : Con Try.prog 87 [.sl 1 (arrivals.map (V.int .i64)), .os 1 times.length, .int .i64 from_, .int .i64 to, .int .i64 n_] [(1, some (.row 2 1 (times.map (V.int .i64))))] (.tup []) ([(1, some (.row 2 1 ((m_spec_l19Go arrivals times from_ to n_).map (V.int .i64))))]) := by
  refine con_intro (out := fun r : (List Int) => ((.tup [] : V), ([(1, some (.row 2 1 (r.map (V.int .i64))))] : List (Nat × Option O)))) (r := (m_spec_l19Go arrivals times from_ to n_)) Try.func87 rfl Try.ntmps87 rfl ?_
  refine run_fact (t := 0) rfl fun hl => ?_
  have l1 := hl; clear hl; simp only [List.length_map] at l1
  refine run_factH (l := 1) rfl fun hl => ?_
  have l2 := hl; clear hl; simp only [List.length_map] at l2
  refine run_seq ?_
  refine run_seq ?_
  refine run_region (q_move .n (.t rfl) rfl <|
      q_move .n (.t rfl) rfl <|
      q_idx_ow .n (.t rfl) (.t rfl) sl_28 (fun _ => by omega) rfl <|
      q_ld1_row .n (.t rfl) rfl (fun _ => by omega) rfl rfl rfl ic_2 rfl <|
      q_int .n (.t rfl) (.c rfl) rfl rfl <|
      Lex.nil) ?_
  refine run_cond (.t rfl) rfl (fun h3 => ?_) (fun h3 => ?_)
  · try simp only [Bool.and_eq_true, Bool.or_eq_true, Bool.not_eq_true', Bool.and_eq_false_iff, Bool.or_eq_false_iff, Bool.not_eq_false', decide_eq_true_eq, decide_eq_false_iff_not, beq_iff_eq, bne_iff_ne, beq_eq_false_iff_ne, bne_eq_false_iff_eq, Bool.true_and, ne_eq, Decidable.not_not, Int.not_lt, Int.not_le, Nat.not_lt, Nat.not_le, strB_nil, strB_nil', strB_nnil, strB_nnil'] at h3
    exact run_ret [] .nil rfl ⟨rfl, trivial⟩ rfl
  · try simp only [Bool.and_eq_true, Bool.or_eq_true, Bool.not_eq_true', Bool.and_eq_false_iff, Bool.or_eq_false_iff, Bool.not_eq_false', decide_eq_true_eq, decide_eq_false_iff_not, beq_iff_eq, bne_iff_ne, beq_eq_false_iff_ne, bne_eq_false_iff_eq, Bool.true_and, ne_eq, Decidable.not_not, Int.not_lt, Int.not_le, Nat.not_lt, Nat.not_le, strB_nil, strB_nil', strB_nnil, strB_nnil'] at h3
    refine run_skip ?_
    refine run_seq ?_
    refine run_region (q_move .n (.t rfl) rfl <|
        q_move .n (.t rfl) rfl <|
        q_idx_ow .n (.t rfl) (.t rfl) sl_28 (fun _ => by omega) rfl <|
        q_ld1_row .n (.t rfl) rfl (fun _ => by omega) rfl rfl rfl ic_2 rfl <|
        q_move .n (.t rfl) rfl <|
        q_int .n (.t rfl) (.t rfl) rfl rfl <|
        q_assign .n (.t rfl) rfl <|
        Lex.nil) ?_
    refine run_seq ?_
    refine run_region (q_move .n (.t rfl) rfl <|
        q_move .n (.t rfl) rfl <|
        q_move .n (.t rfl) rfl <|
        q_call0 (full := false) .n .f en_85 (.cons (.t rfl) (.cons (.t rfl) (.cons (.t rfl) .nil))) (.cons (.b (.a (.same rfl))) (.cons (.b (.a (.same rfl))) (.cons (.b (.a (.same rfl))) .nil))) (fun hg => c_spec_l19Safe arrivals to (IntKind.wrap .i64 ((at' times from_) + n_)) (by omega)) rfl (fun h => Bool.noConfusion h) rfl <|
        q_move .n (.t rfl) rfl <|
        q_move (.t rfl rfl) (.t rfl) rfl <|
        q_move (.t rfl rfl) (.t rfl) rfl <|
        q_idx_ow (.t rfl rfl) (.u rfl id) (.u rfl id) sl_28 (fun hg => by simp only [Bool.and_eq_true, Bool.or_eq_true, Bool.not_eq_true', Bool.and_eq_false_iff, Bool.or_eq_false_iff, Bool.not_eq_false', decide_eq_true_eq, decide_eq_false_iff_not, beq_iff_eq, bne_iff_ne, beq_eq_false_iff_ne, bne_eq_false_iff_eq, Bool.true_and, ne_eq, Decidable.not_not, Int.not_lt, Int.not_le, Nat.not_lt, Nat.not_le, strB_nil, strB_nil', strB_nnil, strB_nnil'] at hg; omega) rfl <|
        q_ld1_row (.t rfl rfl) (.u rfl id) rfl (fun hg => by simp only [Bool.and_eq_true, Bool.or_eq_true, Bool.not_eq_true', Bool.and_eq_false_iff, Bool.or_eq_false_iff, Bool.not_eq_false', decide_eq_true_eq, decide_eq_false_iff_not, beq_iff_eq, bne_iff_ne, beq_eq_false_iff_ne, bne_eq_false_iff_eq, Bool.true_and, ne_eq, Decidable.not_not, Int.not_lt, Int.not_le, Nat.not_lt, Nat.not_le, strB_nil, strB_nil', strB_nnil, strB_nnil'] at hg; omega) rfl rfl rfl ic_2 rfl <|
        q_int (.t rfl rfl) (.u rfl id) (.c rfl) rfl rfl <|
        q_move (.t rfl rfl) (.u rfl id) rfl <|
        q_move (.f rfl rfl) (.t rfl) rfl <|
        q_move (.f rfl rfl) (.t rfl) rfl <|
        q_move (.f rfl rfl) (.t rfl) rfl <|
        q_idx_ow (.f rfl rfl) (.u rfl id) (.u rfl id) sl_28 (fun hg => by simp only [Bool.and_eq_true, Bool.or_eq_true, Bool.not_eq_true', Bool.and_eq_false_iff, Bool.or_eq_false_iff, Bool.not_eq_false', decide_eq_true_eq, decide_eq_false_iff_not, beq_iff_eq, bne_iff_ne, beq_eq_false_iff_ne, bne_eq_false_iff_eq, Bool.true_and, ne_eq, Decidable.not_not, Int.not_lt, Int.not_le, Nat.not_lt, Nat.not_le, strB_nil, strB_nil', strB_nnil, strB_nnil'] at hg; omega) rfl <|
        q_ld1_row (.f rfl rfl) (.u rfl id) rfl (fun hg => by simp only [Bool.and_eq_true, Bool.or_eq_true, Bool.not_eq_true', Bool.and_eq_false_iff, Bool.or_eq_false_iff, Bool.not_eq_false', decide_eq_true_eq, decide_eq_false_iff_not, beq_iff_eq, bne_iff_ne, beq_eq_false_iff_ne, bne_eq_false_iff_eq, Bool.true_and, ne_eq, Decidable.not_not, Int.not_lt, Int.not_le, Nat.not_lt, Nat.not_le, strB_nil, strB_nil', strB_nnil, strB_nnil'] at hg; omega) rfl rfl rfl ic_2 rfl <|
        q_int (.f rfl rfl) (.u rfl id) (.u rfl id) rfl rfl <|
        q_or (.t rfl rfl) (.u rfl id) (.u rfl id) rfl <|
        q_and .n (.t rfl) (.u rfl id) rfl <|
        Lex.nil) ?_
    refine run_cond (.t rfl) rfl (fun h4 => ?_) (fun h4 => ?_)
    · try simp only [Bool.and_eq_true, Bool.or_eq_true, Bool.not_eq_true', Bool.and_eq_false_iff, Bool.or_eq_false_iff, Bool.not_eq_false', decide_eq_true_eq, decide_eq_false_iff_not, beq_iff_eq, bne_iff_ne, beq_eq_false_iff_ne, bne_eq_false_iff_eq, Bool.true_and, ne_eq, Decidable.not_not, Int.not_lt, Int.not_le, Nat.not_lt, Nat.not_le, strB_nil, strB_nil', strB_nnil, strB_nnil'] at h4
      refine run_region (q_move .n (.t rfl) rfl <|
          q_move .n (.t rfl) rfl <|
          q_move .n (.t rfl) rfl <|
          q_idx_ow .n (.t rfl) (.t rfl) sl_28 (fun _ => by omega) rfl <|
          q_st_rowm (IntKind.wrap .i64 ((at' times from_) + n_)) .n rfl (.t rfl) (.t rfl) rfl ts_2 (by omega) rfl rfl <|
          Lex.nil) ?_
      exact run_end [] .nil rfl ⟨rfl, trivial⟩ rfl
    · try simp only [Bool.and_eq_true, Bool.or_eq_true, Bool.not_eq_true', Bool.and_eq_false_iff, Bool.or_eq_false_iff, Bool.not_eq_false', decide_eq_true_eq, decide_eq_false_iff_not, beq_iff_eq, bne_iff_ne, beq_eq_false_iff_ne, bne_eq_false_iff_eq, Bool.true_and, ne_eq, Decidable.not_not, Int.not_lt, Int.not_le, Nat.not_lt, Nat.not_le, strB_nil, strB_nil', strB_nnil, strB_nnil'] at h4
      refine run_skip ?_
      exact run_end [] .nil rfl ⟨rfl, trivial⟩ rfl

/-! ### spec_l19Times -/
theorem c_spec_l19Times (m_ : gMine) (arrivals : List Int) (blocked : Int) (c_ : gCrew) (start : Int) (hp1 : MineIn m_) (hp2 : (arrivals.length : Int) = m_.Junctions) (hp3 : CrewIn m_ c_) (hp4 : 0 ≤ start ∧ start ≤ 36000) : Con Try.prog 41 [.rp [.int .i64 m_.Junctions, .sl 7 (m_.Airways.map gAirway.v)], .sl 1 (arrivals.map (V.int .i64)), .int .i64 blocked, .rp [.str c_.Id, .int .i64 c_.Junction, .int .i64 c_.Speed], .int .i64 start] [] (.os 100 (m_spec_l19Times m_ arrivals blocked c_ start).length) ([(100, some (.row 2 1 ((m_spec_l19Times m_ arrivals blocked c_ start).map (V.int .i64))))]) := by
  refine con_intro (out := fun r : (List Int) => ((.os 100 r.length : V), ([(100, some (.row 2 1 (r.map (V.int .i64))))] : List (Nat × Option O)))) (r := (m_spec_l19Times m_ arrivals blocked c_ start)) Try.func41 rfl Try.ntmps41 rfl ?_
  have hC1 := hp3.1
  have hC2 := hp3.2
  have hJ1 := hp1.1
  have hA1 := hp1.2.1
  refine run_factP (t := 0) 1 rfl rfl fun hl => ?_
  have l1 := hl; clear hl; simp only [List.length_map] at l1
  refine run_fact (t := 1) rfl fun hl => ?_
  have l2 := hl; clear hl; simp only [List.length_map] at l2
  refine run_seq ?_
  refine run_region (q_assign .n (.c rfl) rfl <|
      Lex.nil) ?_
  refine run_seq ?_
  refine run_region (q_bslicem ([] : List Int) (f := V.int .i64) (l := 200) .n rfl rfl .nil rfl si_28 zv_2 rfl rfl rfl <|
      q_assign .n (.t rfl) rfl <|
      Lex.nil) ?_
  refine run_seq ?_
  refine run_seq ?_
  refine run_region (q_assign .n (.c rfl) rfl <|
      Lex.nil) ?_
  refine run_block ?_
  refine run_LOOP (m_spec_l19Times_b1 m_ arrivals blocked c_ start) _ _ _ rfl (fun (x1 : (List Int) × Int) => 0 ≤ x1.2 ∧ x1.2 ≤ m_.Junctions ∧ (x1.1.length : Int) + 0 ≤ x1.2 + (([] : List Int).length : Int) ∧ (x1.1.length : Int) = x1.2) (fun x1 => 0 ≤ x1.2 ∧ x1.2 ≤ m_.Junctions ∧ (x1.1.length : Int) + 0 ≤ x1.2 + (([] : List Int).length : Int) ∧ (x1.1.length : Int) = x1.2 ∧ m_.Junctions ≤ x1.2) (fun x1 => (m_.Junctions - x1.2 : Int).toNat) (fun x1 => ⟨[(0, some (true, .rp [.int .i64 m_.Junctions, .sl 7 (m_.Airways.map gAirway.v)])), (1, some (true, .sl 1 (arrivals.map (V.int .i64)))), (2, some (true, .int .i64 blocked)), (3, some (true, .rp [.str c_.Id, .int .i64 c_.Junction, .int .i64 c_.Speed])), (4, some (true, .int .i64 start)), (11, some (true, .os 200 x1.1.length)), (12, some (true, .int .i64 x1.2))], [(200, some (.row 2 1 (x1.1.map (V.int .i64))))]⟩) (fun x1 => ⟨[(0, some (true, .rp [.int .i64 m_.Junctions, .sl 7 (m_.Airways.map gAirway.v)])), (1, some (true, .sl 1 (arrivals.map (V.int .i64)))), (2, some (true, .int .i64 blocked)), (3, some (true, .rp [.str c_.Id, .int .i64 c_.Junction, .int .i64 c_.Speed])), (4, some (true, .int .i64 start)), (11, some (true, .os 200 x1.1.length))], [(200, some (.row 2 1 (x1.1.map (V.int .i64))))]⟩) ⟨by omega, by omega, by (simp only [List.length_append, List.length_cons, List.length_nil, List.length_replicate, put_len] at * <;> omega), by (simp only [List.length_append, List.length_cons, List.length_nil, List.length_replicate, put_len] at * <;> omega)⟩ (by omega) (sub_of [] ⟨rfl, rfl, rfl, rfl, rfl, rfl, rfl, trivial⟩ ⟨rfl, trivial⟩ rfl) ?_ ?_
  · intro x1 i6
    obtain ⟨e31, e32, e33, e34, e35⟩ := i6
    try dsimp only at *
    refine run_seq ?_
    refine run_seq ?_
    refine run_region (q_move .n (.t rfl) rfl <|
        q_move .n (.t rfl) rfl <|
        q_nilc_ro .n (.t rfl) rfl <|
        q_fld_ro .n (.t rfl) fo_34_1 rfl <|
        q_ld1_ro .n (.t rfl) rfl ic_2 rfl <|
        q_move .n (.t rfl) rfl <|
        q_call0 (full := false) .n .f en_85 (.cons (.t rfl) (.cons (.t rfl) (.cons (.t rfl) .nil))) (.cons (.b (.a (.same rfl))) (.cons (.b (.a (.same rfl))) (.cons (.b (.a (.same rfl))) .nil))) (fun hg => c_spec_l19Safe arrivals c_.Junction start (by omega)) rfl (fun h => Bool.noConfusion h) rfl <|
        q_not .n (.t rfl) rfl <|
        Lex.nil) ?_
    refine run_cond (.t rfl) rfl (fun h7 => ?_) (fun h7 => ?_)
    · try simp only [Bool.and_eq_true, Bool.or_eq_true, Bool.not_eq_true', Bool.and_eq_false_iff, Bool.or_eq_false_iff, Bool.not_eq_false', decide_eq_true_eq, decide_eq_false_iff_not, beq_iff_eq, bne_iff_ne, beq_eq_false_iff_ne, bne_eq_false_iff_eq, Bool.true_and, ne_eq, Decidable.not_not, Int.not_lt, Int.not_le, Nat.not_lt, Nat.not_le, strB_nil, strB_nil', strB_nnil, strB_nnil'] at h7
      refine run_seq ?_
      refine run_region (q_move .n (.t rfl) rfl <|
          q_assign .n (.t rfl) rfl <|
          Lex.nil) ?_
      exact run_ret [(100, 200)] (.cons (.t rfl rfl) .nil) (by first | rfl | (simp only [put_len]; rfl)) ⟨rfl, trivial⟩ rfl
    · try simp only [Bool.and_eq_true, Bool.or_eq_true, Bool.not_eq_true', Bool.and_eq_false_iff, Bool.or_eq_false_iff, Bool.not_eq_false', decide_eq_true_eq, decide_eq_false_iff_not, beq_iff_eq, bne_iff_ne, beq_eq_false_iff_ne, bne_eq_false_iff_eq, Bool.true_and, ne_eq, Decidable.not_not, Int.not_lt, Int.not_le, Nat.not_lt, Nat.not_le, strB_nil, strB_nil', strB_nnil, strB_nnil'] at h7
      refine run_skip ?_
      refine run_seq ?_
      refine run_region (q_move .n (.t rfl) rfl <|
          q_move .n (.t rfl) rfl <|
          q_nilc_ro .n (.t rfl) rfl <|
          q_fld_ro .n (.t rfl) fo_34_1 rfl <|
          q_ld1_ro .n (.t rfl) rfl ic_2 rfl <|
          q_move .n (.t rfl) rfl <|
          q_idx_ow .n (.t rfl) (.t rfl) sl_28 (fun _ => by omega) rfl <|
          q_st_rowm start .n rfl (.t rfl) (.t rfl) rfl ts_2 (by omega) rfl rfl <|
          Lex.nil) ?_
      refine run_seq ?_
      refine run_seq ?_
      refine run_region (q_assign .n (.c rfl) rfl <|
          Lex.nil) ?_
      refine run_block ?_
      refine run_LOOP (m_spec_l19Times_b2 m_ arrivals blocked c_ start x1) _ _ _ rfl (fun (x2 : (List Int) × Int) => 0 ≤ x2.2 ∧ x2.2 ≤ m_.Junctions ∧ (x2.1.length : Int) = m_.Junctions) (fun x2 => 0 ≤ x2.2 ∧ x2.2 ≤ m_.Junctions ∧ (x2.1.length : Int) = m_.Junctions ∧ m_.Junctions ≤ x2.2) (fun x2 => (m_.Junctions - x2.2 : Int).toNat) (fun x2 => ⟨[(0, some (true, .rp [.int .i64 m_.Junctions, .sl 7 (m_.Airways.map gAirway.v)])), (1, some (true, .sl 1 (arrivals.map (V.int .i64)))), (2, some (true, .int .i64 blocked)), (3, some (true, .rp [.str c_.Id, .int .i64 c_.Junction, .int .i64 c_.Speed])), (11, some (true, .os 200 x2.1.length)), (13, some (true, .int .i64 x2.2))], [(200, some (.row 2 1 (x2.1.map (V.int .i64))))]⟩) (fun x2 => ⟨[(11, some (true, .os 200 x2.1.length))], [(200, some (.row 2 1 (x2.1.map (V.int .i64))))]⟩) ⟨by omega, by omega, by (simp only [List.length_append, List.length_cons, List.length_nil, List.length_replicate, put_len] at * <;> omega)⟩ (by omega) (sub_of [] ⟨rfl, rfl, rfl, rfl, os_len rfl (by first | (simp only [put_len]; done) | (first | omega | assumption | (simp only [List.length_append, List.length_cons, List.length_nil, List.length_replicate, put_len] at * <;> omega) | (((simp only [go_len, put_len] at * <;> omega)); done) | (((have hw0 := hp1.at (i := x3.1) (by omega); unfold AirIn at hw0; (try simp only [go_len] at *); omega)); done))), rfl, trivial⟩ ⟨rfl, trivial⟩ rfl) ?_ ?_
      · intro x2 i23
        obtain ⟨e24, e25, e26, e27⟩ := i23
        try dsimp only at *
        refine run_seq ?_
        refine run_region (q_move .n (.t rfl) rfl <|
            q_assign .n (.t rfl) rfl <|
            Lex.nil) ?_
        exact run_ret [(100, 200)] (.cons (.t rfl rfl) .nil) (by first | rfl | (simp only [put_len]; rfl)) ⟨rfl, trivial⟩ rfl
      · intro rec2 k2 hk8 x2 i9
        obtain ⟨e28, e29, e30⟩ := i9
        try dsimp only at *
        refine run_seq ?_
        refine run_seq ?_
        refine run_region (q_move .n (.t rfl) rfl <|
            q_move .n (.t rfl) rfl <|
            q_nilc_ro .n (.t rfl) rfl <|
            q_fld_ro .n (.t rfl) fo_26_0 rfl <|
            q_ld1_ro .n (.t rfl) rfl ic_2 rfl <|
            q_int .n (.t rfl) (.t rfl) rfl rfl <|
            Lex.nil) ?_
        refine run_cond (.t rfl) rfl (fun h10 => ?_) (fun h10 => ?_)
        · try simp only [Bool.and_eq_true, Bool.or_eq_true, Bool.not_eq_true', Bool.and_eq_false_iff, Bool.or_eq_false_iff, Bool.not_eq_false', decide_eq_true_eq, decide_eq_false_iff_not, beq_iff_eq, bne_iff_ne, beq_eq_false_iff_ne, bne_eq_false_iff_eq, Bool.true_and, ne_eq, Decidable.not_not, Int.not_lt, Int.not_le, Nat.not_lt, Nat.not_le, strB_nil, strB_nil', strB_nnil, strB_nnil'] at h10
          refine run_skip ?_
          refine run_seq ?_
          refine run_block ?_
          refine run_seq ?_
          refine run_region (q_assign .n (.c rfl) rfl <|
              Lex.nil) ?_
          refine run_block ?_
          refine run_LOOP (m_spec_l19Times_b3 m_ arrivals blocked c_ start x1 rec2 k2 x2) _ _ _ rfl (fun (x3 : Int × (List Int)) => 0 ≤ x3.1 ∧ x3.1 ≤ (m_.Airways.length : Int) ∧ (x3.2.length : Int) = m_.Junctions) (fun x3 => 0 ≤ x3.1 ∧ x3.1 ≤ (m_.Airways.length : Int) ∧ (x3.2.length : Int) = m_.Junctions ∧ (m_.Airways.length : Int) ≤ x3.1) (fun x3 => ((m_.Airways.length : Int) - x3.1 : Int).toNat) (fun x3 => ⟨[(0, some (true, .rp [.int .i64 m_.Junctions, .sl 7 (m_.Airways.map gAirway.v)])), (1, some (true, .sl 1 (arrivals.map (V.int .i64)))), (2, some (true, .int .i64 blocked)), (3, some (true, .rp [.str c_.Id, .int .i64 c_.Junction, .int .i64 c_.Speed])), (11, some (true, .os 200 x3.2.length)), (13, some (true, .int .i64 x2.2)), (14, some (true, .int .i64 x3.1))], [(200, some (.row 2 1 (x3.2.map (V.int .i64))))]⟩) (fun x3 => ⟨[(0, some (true, .rp [.int .i64 m_.Junctions, .sl 7 (m_.Airways.map gAirway.v)])), (1, some (true, .sl 1 (arrivals.map (V.int .i64)))), (2, some (true, .int .i64 blocked)), (3, some (true, .rp [.str c_.Id, .int .i64 c_.Junction, .int .i64 c_.Speed])), (11, some (true, .os 200 x3.2.length)), (13, some (true, .int .i64 x2.2))], [(200, some (.row 2 1 (x3.2.map (V.int .i64))))]⟩) ⟨by omega, by omega, by omega⟩ (by omega) (sub_of [] ⟨rfl, rfl, rfl, rfl, rfl, rfl, rfl, trivial⟩ ⟨rfl, trivial⟩ rfl) ?_ ?_
          · intro x3 i15
            obtain ⟨e16, e17, e18, e19⟩ := i15
            try dsimp only at *
            refine run_endB ?_
            refine run_region (q_move .n (.t rfl) rfl <|
                q_add .n (.t rfl) (.c rfl) (fun _ => by omega) rfl <|
                q_assign .n (.t rfl) rfl <|
                Lex.nil) ?_
            exact run_again (x3.2, x2.2 + 1) ⟨by omega, by omega, by omega⟩ (by omega) (sub_of [] ⟨rfl, rfl, rfl, rfl, rfl, rfl, trivial⟩ ⟨rfl, trivial⟩ rfl)
          · intro rec3 k3 hk11 x3 i12
            obtain ⟨e20, e21, e22⟩ := i12
            try dsimp only at *
            refine run_seq ?_
            refine run_seq ?_
            refine run_region (q_move .n (.t rfl) rfl <|
                q_move .n (.t rfl) rfl <|
                q_nilc_ro .n (.t rfl) rfl <|
                q_fld_ro .n (.t rfl) fo_26_1 rfl <|
                q_ld1_ro .n (.t rfl) rfl ic_24 rfl <|
                q_len .n (.t rfl) rfl len_map ss_24 rfl <|
                q_int .n (.t rfl) (.t rfl) rfl rfl <|
                Lex.nil) ?_
            refine run_cond (.t rfl) rfl (fun h13 => ?_) (fun h13 => ?_)
            · try simp only [Bool.and_eq_true, Bool.or_eq_true, Bool.not_eq_true', Bool.and_eq_false_iff, Bool.or_eq_false_iff, Bool.not_eq_false', decide_eq_true_eq, decide_eq_false_iff_not, beq_iff_eq, bne_iff_ne, beq_eq_false_iff_ne, bne_eq_false_iff_eq, Bool.true_and, ne_eq, Decidable.not_not, Int.not_lt, Int.not_le, Nat.not_lt, Nat.not_le, strB_nil, strB_nil', strB_nnil, strB_nnil'] at h13
              refine run_skip ?_
              refine run_seq ?_
              refine run_block ?_
              refine run_seq ?_
              refine run_seq ?_
              refine run_region (q_move .n (.t rfl) rfl <|
                  q_move .n (.t rfl) rfl <|
                  q_int .n (.t rfl) (.t rfl) rfl rfl <|
                  Lex.nil) ?_
              refine run_cond (.t rfl) rfl (fun h14 => ?_) (fun h14 => ?_)
              · try simp only [Bool.and_eq_true, Bool.or_eq_true, Bool.not_eq_true', Bool.and_eq_false_iff, Bool.or_eq_false_iff, Bool.not_eq_false', decide_eq_true_eq, decide_eq_false_iff_not, beq_iff_eq, bne_iff_ne, beq_eq_false_iff_ne, bne_eq_false_iff_eq, Bool.true_and, ne_eq, Decidable.not_not, Int.not_lt, Int.not_le, Nat.not_lt, Nat.not_le, strB_nil, strB_nil', strB_nnil, strB_nnil'] at h14
                refine run_exit rfl ?_
                refine run_region (q_move .n (.t rfl) rfl <|
                    q_add .n (.t rfl) (.c rfl) (fun _ => by omega) rfl <|
                    q_assign .n (.t rfl) rfl <|
                    Lex.nil) ?_
                exact run_again (x3.1 + 1, x3.2) ⟨by omega, by omega, by omega⟩ (by omega) (sub_of [] ⟨rfl, rfl, rfl, rfl, rfl, rfl, rfl, trivial⟩ ⟨rfl, trivial⟩ rfl)
              · try simp only [Bool.and_eq_true, Bool.or_eq_true, Bool.not_eq_true', Bool.and_eq_false_iff, Bool.or_eq_false_iff, Bool.not_eq_false', decide_eq_true_eq, decide_eq_false_iff_not, beq_iff_eq, bne_iff_ne, beq_eq_false_iff_ne, bne_eq_false_iff_eq, Bool.true_and, ne_eq, Decidable.not_not, Int.not_lt, Int.not_le, Nat.not_lt, Nat.not_le, strB_nil, strB_nil', strB_nnil, strB_nnil'] at h14
                refine run_skip ?_
                refine run_seq ?_
                refine run_region (q_move .n (.t rfl) rfl <|
                    q_nilc_ro .n (.t rfl) rfl <|
                    q_fld_ro .n (.t rfl) fo_26_1 rfl <|
                    q_ld1_ro .n (.t rfl) rfl ic_24 rfl <|
                    q_move .n (.t rfl) rfl <|
                    q_idx_rm .n (.t rfl) (.t rfl) sl_24 (fun _ => by omega) rfl <|
                    q_assign .n (.t rfl) rfl <|
                    Lex.nil) ?_
                refine run_seq ?_
                refine run_region (q_move .n (.t rfl) rfl <|
                    q_move .n (.t rfl) rfl <|
                    q_nilc_ro .n (.t rfl) rfl <|
                    q_fld_ro .n (.t rfl) fo_34_2 rfl <|
                    q_ld1_ro .n (.t rfl) rfl ic_2 rfl <|
                    q_call0 (full := false) .n .f en_86 (.cons (.t rfl) (.cons (.t rfl) .nil)) (.cons (.b (.a (.same rfl))) (.cons (.b (.a (.same rfl))) .nil)) (fun hg => c_spec_l19Walk (at' m_.Airways x3.1) c_.Speed (by omega)) rfl (fun h => Bool.noConfusion h) rfl <|
                    q_assign .n (.t rfl) rfl <|
                    Lex.nil) ?_
                refine run_seq ?_
                refine run_draw fmo (q_move .n (.t rfl) rfl <|
                    q_move .n (.t rfl) rfl <|
                    q_move .n (.t rfl) rfl <|
                    q_nilc_ro .n (.t rfl) rfl <|
                    q_fld_ro .n (.t rfl) fo_46_1 rfl <|
                    q_ld1_ro .n (.t rfl) rfl ic_2 rfl <|
                    q_move .n (.t rfl) rfl <|
                    q_nilc_ro .n (.t rfl) rfl <|
                    q_fld_ro .n (.t rfl) fo_46_2 rfl <|
                    q_ld1_ro .n (.t rfl) rfl ic_2 rfl <|
                    q_move .n (.t rfl) rfl <|
                    q_callM (full := false) [(1, 200)] [] .n rfl .f en_87 (.cons (.t rfl) (.cons (.t rfl) (.cons (.t rfl) (.cons (.t rfl) (.cons (.t rfl) .nil))))) (.cons (.b (.a (.same rfl))) (.cons (.b (muts_len rfl (by first | rfl | exact go_len _ _ _ _ _))) (.cons (.b (.a (.same rfl))) (.cons (.b (.a (.same rfl))) (.cons (.b (.a (.same rfl))) .nil))))) (c_spec_l19Go arrivals x3.2 (at' m_.Airways x3.1).From (at' m_.Airways x3.1).To (m_spec_l19Walk (at' m_.Airways x3.1) c_.Speed) (by ((have hw0 := hp1.at (i := x3.1) (by omega); unfold AirIn at hw0; (try simp only [go_len] at *); omega))) (by ((have hw0 := hp1.at (i := x3.1) (by omega); unfold AirIn at hw0; (try simp only [go_len] at *); omega))) (by omega)) ⟨rfl, trivial⟩ rfl rfl (fun h => Bool.noConfusion h) (fun h => Bool.noConfusion h) rfl <|
                    Lex.nil) (by kernel_rfl) ?_
                refine run_draw fmo (q_move .n (.t rfl) rfl <|
                    q_move .n (.t rfl) rfl <|
                    q_move .n (.t rfl) rfl <|
                    q_nilc_ro .n (.t rfl) rfl <|
                    q_fld_ro .n (.t rfl) fo_46_2 rfl <|
                    q_ld1_ro .n (.t rfl) rfl ic_2 rfl <|
                    q_move .n (.t rfl) rfl <|
                    q_nilc_ro .n (.t rfl) rfl <|
                    q_fld_ro .n (.t rfl) fo_46_1 rfl <|
                    q_ld1_ro .n (.t rfl) rfl ic_2 rfl <|
                    q_move .n (.t rfl) rfl <|
                    q_callM (full := false) [(1, 200)] [] .n rfl .f en_87 (.cons (.t rfl) (.cons (.t rfl) (.cons (.t rfl) (.cons (.t rfl) (.cons (.t rfl) .nil))))) (.cons (.b (.a (.same rfl))) (.cons (.b (muts_len rfl (by first | rfl | exact go_len _ _ _ _ _))) (.cons (.b (.a (.same rfl))) (.cons (.b (.a (.same rfl))) (.cons (.b (.a (.same rfl))) .nil))))) (c_spec_l19Go arrivals (m_spec_l19Go arrivals x3.2 (at' m_.Airways x3.1).From (at' m_.Airways x3.1).To (m_spec_l19Walk (at' m_.Airways x3.1) c_.Speed)) (at' m_.Airways x3.1).To (at' m_.Airways x3.1).From (m_spec_l19Walk (at' m_.Airways x3.1) c_.Speed) (by ((have hw0 := hp1.at (i := x3.1) (by omega); unfold AirIn at hw0; (try simp only [go_len] at *); omega))) (by ((have hw0 := hp1.at (i := x3.1) (by omega); unfold AirIn at hw0; (try simp only [go_len] at *); omega))) (by ((simp only [go_len, put_len] at * <;> omega)))) ⟨rfl, trivial⟩ rfl rfl (fun h => Bool.noConfusion h) (fun h => Bool.noConfusion h) rfl <|
                    Lex.nil) (by kernel_rfl) ?_
                refine run_endB ?_
                refine run_region (q_move .n (.t rfl) rfl <|
                    q_add .n (.t rfl) (.c rfl) (fun _ => by omega) rfl <|
                    q_assign .n (.t rfl) rfl <|
                    Lex.nil) ?_
                exact run_again (x3.1 + 1, m_spec_l19Go arrivals (m_spec_l19Go arrivals x3.2 (at' m_.Airways x3.1).From (at' m_.Airways x3.1).To (m_spec_l19Walk (at' m_.Airways x3.1) c_.Speed)) (at' m_.Airways x3.1).To (at' m_.Airways x3.1).From (m_spec_l19Walk (at' m_.Airways x3.1) c_.Speed)) ⟨by omega, by omega, by ((simp only [go_len, put_len] at * <;> omega))⟩ (by omega) (sub_of [] ⟨rfl, rfl, rfl, rfl, os_len rfl (by first | (simp only [put_len]; done) | (((simp only [go_len, put_len] at * <;> omega)))), rfl, rfl, trivial⟩ ⟨rfl, trivial⟩ rfl)
            · try simp only [Bool.and_eq_true, Bool.or_eq_true, Bool.not_eq_true', Bool.and_eq_false_iff, Bool.or_eq_false_iff, Bool.not_eq_false', decide_eq_true_eq, decide_eq_false_iff_not, beq_iff_eq, bne_iff_ne, beq_eq_false_iff_ne, bne_eq_false_iff_eq, Bool.true_and, ne_eq, Decidable.not_not, Int.not_lt, Int.not_le, Nat.not_lt, Nat.not_le, strB_nil, strB_nil', strB_nnil, strB_nnil'] at h13
              refine run_exit rfl ?_
              exact run_cont hk11 (x3.1, x3.2) ⟨by omega, by omega, by omega, by omega⟩ (sub_of [] ⟨rfl, rfl, rfl, rfl, rfl, rfl, trivial⟩ ⟨rfl, trivial⟩ rfl)
        · try simp only [Bool.and_eq_true, Bool.or_eq_true, Bool.not_eq_true', Bool.and_eq_false_iff, Bool.or_eq_false_iff, Bool.not_eq_false', decide_eq_true_eq, decide_eq_false_iff_not, beq_iff_eq, bne_iff_ne, beq_eq_false_iff_ne, bne_eq_false_iff_eq, Bool.true_and, ne_eq, Decidable.not_not, Int.not_lt, Int.not_le, Nat.not_lt, Nat.not_le, strB_nil, strB_nil', strB_nnil, strB_nnil'] at h10
          refine run_exit rfl ?_
          exact run_cont hk8 (x2.1, x2.2) ⟨by omega, by omega, by omega, by omega⟩ (sub_of [] ⟨rfl, trivial⟩ ⟨rfl, trivial⟩ rfl)
  · intro rec1 k1 hk3 x1 i4
    obtain ⟨e36, e37, e38, e39⟩ := i4
    try dsimp only at *
    refine run_seq ?_
    refine run_seq ?_
    refine run_region (q_move .n (.t rfl) rfl <|
        q_move .n (.t rfl) rfl <|
        q_nilc_ro .n (.t rfl) rfl <|
        q_fld_ro .n (.t rfl) fo_26_0 rfl <|
        q_ld1_ro .n (.t rfl) rfl ic_2 rfl <|
        q_int .n (.t rfl) (.t rfl) rfl rfl <|
        Lex.nil) ?_
    refine run_cond (.t rfl) rfl (fun h5 => ?_) (fun h5 => ?_)
    · try simp only [Bool.and_eq_true, Bool.or_eq_true, Bool.not_eq_true', Bool.and_eq_false_iff, Bool.or_eq_false_iff, Bool.not_eq_false', decide_eq_true_eq, decide_eq_false_iff_not, beq_iff_eq, bne_iff_ne, beq_eq_false_iff_ne, bne_eq_false_iff_eq, Bool.true_and, ne_eq, Decidable.not_not, Int.not_lt, Int.not_le, Nat.not_lt, Nat.not_le, strB_nil, strB_nil', strB_nnil, strB_nnil'] at h5
      refine run_skip ?_
      refine run_seq ?_
      refine run_block ?_
      refine run_region (q_move .n (.t rfl) rfl <|
          q_bslicem ([(-1)] : List Int) (f := V.int .i64) (l := 201) .n rfl rfl (.cons (.c rfl) .nil) rfl si_28 zv_2 rfl rfl rfl <|
          q_appm (xs := x1.1) (ys := ([(-1)] : List Int)) (f := V.int .i64) (l := 202) .n rfl (.ow (.t rfl) rfl (take_all (by simp only [len_map, put_len] <;> rfl)) (by simp only [len_map, put_len] <;> rfl)) (.ow (.t rfl) rfl (take_all (by simp only [len_map, put_len] <;> rfl)) (by simp only [len_map, put_len] <;> rfl)) si_28 zv_2 rfl (by (simp only [List.length_append, List.length_cons, List.length_nil, List.length_replicate, put_len] at * <;> omega)) rfl rfl <|
          q_assign .n (.t rfl) rfl <|
          Lex.nil) ?_
      refine run_endB ?_
      refine run_region (q_move .n (.t rfl) rfl <|
          q_add .n (.t rfl) (.c rfl) (fun _ => by omega) rfl <|
          q_assign .n (.t rfl) rfl <|
          Lex.nil) ?_
      exact run_again (x1.1 ++ ([(-1)] : List Int), x1.2 + 1) ⟨by omega, by omega, by (simp only [List.length_append, List.length_cons, List.length_nil, List.length_replicate, put_len] at * <;> omega), by (simp only [List.length_append, List.length_cons, List.length_nil, List.length_replicate, put_len] at * <;> omega)⟩ (by omega) (sub_of [(200, 202)] ⟨rfl, rfl, rfl, rfl, rfl, rfl, rfl, trivial⟩ ⟨rfl, trivial⟩ rfl)
    · try simp only [Bool.and_eq_true, Bool.or_eq_true, Bool.not_eq_true', Bool.and_eq_false_iff, Bool.or_eq_false_iff, Bool.not_eq_false', decide_eq_true_eq, decide_eq_false_iff_not, beq_iff_eq, bne_iff_ne, beq_eq_false_iff_ne, bne_eq_false_iff_eq, Bool.true_and, ne_eq, Decidable.not_not, Int.not_lt, Int.not_le, Nat.not_lt, Nat.not_le, strB_nil, strB_nil', strB_nnil, strB_nnil'] at h5
      refine run_exit rfl ?_
      exact run_cont hk3 (x1.1, x1.2) ⟨by omega, by omega, by omega, by omega, by omega⟩ (sub_of [] ⟨rfl, rfl, rfl, rfl, rfl, rfl, trivial⟩ ⟨rfl, trivial⟩ rfl)

/-! ### spec_l19Exit -/
theorem c_spec_l19Exit (times : List Int) (exits : List Int) (hp1 : ∀ y ∈ exits, 0 ≤ y ∧ y < times.length) : Con Try.prog 42 [.sl 1 (times.map (V.int .i64)), .sl 1 (exits.map (V.int .i64))] [] (.int .i64 (m_spec_l19Exit times exits)) ([]) := by
  refine con_intro (out := fun r : Int => ((.int .i64 r : V), ([] : List (Nat × Option O)))) (r := (m_spec_l19Exit times exits)) Try.func42 rfl Try.ntmps42 rfl ?_
  refine run_fact (t := 0) rfl fun hl => ?_
  have l1 := hl; clear hl; simp only [List.length_map] at l1
  refine run_fact (t := 1) rfl fun hl => ?_
  have l2 := hl; clear hl; simp only [List.length_map] at l2
  refine run_seq ?_
  refine run_region (q_assign .n (.c rfl) rfl <|
      Lex.nil) ?_
  refine run_seq ?_
  refine run_region (q_assign .n (.c rfl) rfl <|
      Lex.nil) ?_
  refine run_seq ?_
  refine run_seq ?_
  refine run_region (q_assign .n (.c rfl) rfl <|
      Lex.nil) ?_
  refine run_block ?_
  refine run_LOOP (m_spec_l19Exit_b1 times exits) _ _ _ rfl (fun (x1 : Int × Int) => 0 ≤ x1.2 ∧ x1.2 ≤ (exits.length : Int) ∧ (x1.1 = -1 ∨ (0 ≤ x1.1 ∧ x1.1 < times.length))) (fun x1 => 0 ≤ x1.2 ∧ x1.2 ≤ (exits.length : Int) ∧ (x1.1 = -1 ∨ (0 ≤ x1.1 ∧ x1.1 < times.length)) ∧ (exits.length : Int) ≤ x1.2) (fun x1 => ((exits.length : Int) - x1.2 : Int).toNat) (fun x1 => ⟨[(0, some (true, .sl 1 (times.map (V.int .i64)))), (1, some (true, .sl 1 (exits.map (V.int .i64)))), (5, some (true, .int .i64 x1.1)), (6, some (true, .int .i64 x1.2))], []⟩) (fun x1 => ⟨[(5, some (true, .int .i64 x1.1))], []⟩) ⟨by omega, by omega, by omega⟩ (by omega) (sub_of [] ⟨rfl, rfl, rfl, rfl, trivial⟩ trivial rfl) ?_ ?_
  · intro x1 i7
    obtain ⟨e8, e9, e10, e11⟩ := i7
    try dsimp only at *
    refine run_seq ?_
    refine run_region (q_move .n (.t rfl) rfl <|
        q_assign .n (.t rfl) rfl <|
        Lex.nil) ?_
    exact run_ret [] (.cons (.t rfl rfl) .nil) rfl trivial rfl
  · intro rec1 k1 hk3 x1 i4
    obtain ⟨e12, e13, e14⟩ := i4
    try dsimp only at *
    refine run_seq ?_
    refine run_seq ?_
    refine run_region (q_move .n (.t rfl) rfl <|
        q_move .n (.t rfl) rfl <|
        q_len .n (.t rfl) rfl len_map ss_28 rfl <|
        q_int .n (.t rfl) (.t rfl) rfl rfl <|
        Lex.nil) ?_
    refine run_cond (.t rfl) rfl (fun h5 => ?_) (fun h5 => ?_)
    · try simp only [Bool.and_eq_true, Bool.or_eq_true, Bool.not_eq_true', Bool.and_eq_false_iff, Bool.or_eq_false_iff, Bool.not_eq_false', decide_eq_true_eq, decide_eq_false_iff_not, beq_iff_eq, bne_iff_ne, beq_eq_false_iff_ne, bne_eq_false_iff_eq, Bool.true_and, ne_eq, Decidable.not_not, Int.not_lt, Int.not_le, Nat.not_lt, Nat.not_le, strB_nil, strB_nil', strB_nnil, strB_nnil'] at h5
      refine run_skip ?_
      refine run_seq ?_
      refine run_block ?_
      refine run_seq ?_
      refine run_region (q_move .n (.t rfl) rfl <|
          q_move .n (.t rfl) rfl <|
          q_move .n (.t rfl) rfl <|
          q_idx_rm .n (.t rfl) (.t rfl) sl_28 (fun _ => by omega) rfl <|
          q_ld1_ro .n (.t rfl) rfl ic_2 rfl <|
          q_idx_rm .n (.t rfl) (.t rfl) sl_28 (fun _ => by ((have hb := at_all (i := x1.2) hp1 (by omega); omega))) rfl <|
          q_ld1_ro .n (.t rfl) rfl ic_2 rfl <|
          q_assign .n (.t rfl) rfl <|
          Lex.nil) ?_
      refine run_seq ?_
      refine run_region (q_move .n (.t rfl) rfl <|
          q_int .n (.t rfl) (.c rfl) rfl rfl <|
          q_move .n (.t rfl) rfl <|
          q_move (.t rfl rfl) (.t rfl) rfl <|
          q_int (.t rfl rfl) (.u rfl id) (.c rfl) rfl rfl <|
          q_move (.t rfl rfl) (.u rfl id) rfl <|
          q_move (.f rfl rfl) (.t rfl) rfl <|
          q_move (.f rfl rfl) (.t rfl) rfl <|
          q_move (.f rfl rfl) (.t rfl) rfl <|
          q_idx_rm (.f rfl rfl) (.u rfl id) (.u rfl id) sl_28 (fun hg => by simp only [Bool.and_eq_true, Bool.or_eq_true, Bool.not_eq_true', Bool.and_eq_false_iff, Bool.or_eq_false_iff, Bool.not_eq_false', decide_eq_true_eq, decide_eq_false_iff_not, beq_iff_eq, bne_iff_ne, beq_eq_false_iff_ne, bne_eq_false_iff_eq, Bool.true_and, ne_eq, Decidable.not_not, Int.not_lt, Int.not_le, Nat.not_lt, Nat.not_le, strB_nil, strB_nil', strB_nnil, strB_nnil'] at hg; omega) rfl <|
          q_ld1_ro (.f rfl rfl) (.u rfl id) rfl ic_2 rfl <|
          q_int (.f rfl rfl) (.u rfl id) (.u rfl id) rfl rfl <|
          q_or (.t rfl rfl) (.u rfl id) (.u rfl id) rfl <|
          q_and .n (.t rfl) (.u rfl id) rfl <|
          Lex.nil) ?_
      refine run_cond (.t rfl) rfl (fun h6 => ?_) (fun h6 => ?_)
      · try simp only [Bool.and_eq_true, Bool.or_eq_true, Bool.not_eq_true', Bool.and_eq_false_iff, Bool.or_eq_false_iff, Bool.not_eq_false', decide_eq_true_eq, decide_eq_false_iff_not, beq_iff_eq, bne_iff_ne, beq_eq_false_iff_ne, bne_eq_false_iff_eq, Bool.true_and, ne_eq, Decidable.not_not, Int.not_lt, Int.not_le, Nat.not_lt, Nat.not_le, strB_nil, strB_nil', strB_nnil, strB_nnil'] at h6
        refine run_region (q_move .n (.t rfl) rfl <|
            q_move .n (.t rfl) rfl <|
            q_idx_rm .n (.t rfl) (.t rfl) sl_28 (fun _ => by omega) rfl <|
            q_ld1_ro .n (.t rfl) rfl ic_2 rfl <|
            q_assign .n (.t rfl) rfl <|
            Lex.nil) ?_
        refine run_endB ?_
        refine run_region (q_move .n (.t rfl) rfl <|
            q_add .n (.t rfl) (.c rfl) (fun _ => by omega) rfl <|
            q_assign .n (.t rfl) rfl <|
            Lex.nil) ?_
        exact run_again (at' exits x1.2, x1.2 + 1) ⟨by omega, by omega, by ((have hb := at_all (i := x1.2) hp1 (by omega); omega))⟩ (by omega) (sub_of [] ⟨rfl, rfl, rfl, rfl, trivial⟩ trivial rfl)
      · try simp only [Bool.and_eq_true, Bool.or_eq_true, Bool.not_eq_true', Bool.and_eq_false_iff, Bool.or_eq_false_iff, Bool.not_eq_false', decide_eq_true_eq, decide_eq_false_iff_not, beq_iff_eq, bne_iff_ne, beq_eq_false_iff_ne, bne_eq_false_iff_eq, Bool.true_and, ne_eq, Decidable.not_not, Int.not_lt, Int.not_le, Nat.not_lt, Nat.not_le, strB_nil, strB_nil', strB_nnil, strB_nnil'] at h6
        refine run_skip ?_
        refine run_endB ?_
        refine run_region (q_move .n (.t rfl) rfl <|
            q_add .n (.t rfl) (.c rfl) (fun _ => by omega) rfl <|
            q_assign .n (.t rfl) rfl <|
            Lex.nil) ?_
        exact run_again (x1.1, x1.2 + 1) ⟨by omega, by omega, by omega⟩ (by omega) (sub_of [] ⟨rfl, rfl, rfl, rfl, trivial⟩ trivial rfl)
    · try simp only [Bool.and_eq_true, Bool.or_eq_true, Bool.not_eq_true', Bool.and_eq_false_iff, Bool.or_eq_false_iff, Bool.not_eq_false', decide_eq_true_eq, decide_eq_false_iff_not, beq_iff_eq, bne_iff_ne, beq_eq_false_iff_ne, bne_eq_false_iff_eq, Bool.true_and, ne_eq, Decidable.not_not, Int.not_lt, Int.not_le, Nat.not_lt, Nat.not_le, strB_nil, strB_nil', strB_nnil, strB_nnil'] at h5
      refine run_exit rfl ?_
      exact run_cont hk3 (x1.1, x1.2) ⟨by omega, by omega, by omega, by omega⟩ (sub_of [] ⟨rfl, trivial⟩ trivial rfl)

/-! ### spec_l19Step -/
theorem c_spec_l19Step (m_ : gMine) (blocked : Int) (speed : Int) (from_ : Int) (to : Int) (hp1 : 10 ≤ speed ∧ speed ≤ 300) : Con Try.prog 43 [.rp [.int .i64 m_.Junctions, .sl 7 (m_.Airways.map gAirway.v)], .int .i64 blocked, .int .i64 speed, .int .i64 from_, .int .i64 to] [] (.int .i64 (m_spec_l19Step m_ blocked speed from_ to)) ([]) := by
  refine con_intro (out := fun r : Int => ((.int .i64 r : V), ([] : List (Nat × Option O)))) (r := (m_spec_l19Step m_ blocked speed from_ to)) Try.func43 rfl Try.ntmps43 rfl ?_
  refine run_factP (t := 0) 1 rfl rfl fun hl => ?_
  have l1 := hl; clear hl; simp only [List.length_map] at l1
  refine run_seq ?_
  refine run_region (q_assign .n (.c rfl) rfl <|
      Lex.nil) ?_
  refine run_seq ?_
  refine run_region (q_assign .n (.c rfl) rfl <|
      Lex.nil) ?_
  refine run_seq ?_
  refine run_seq ?_
  refine run_region (q_assign .n (.c rfl) rfl <|
      Lex.nil) ?_
  refine run_block ?_
  refine run_LOOP (m_spec_l19Step_b1 m_ blocked speed from_ to) _ _ _ rfl (fun (x1 : Int × Int) => 0 ≤ x1.1 ∧ x1.1 ≤ (m_.Airways.length : Int)) (fun x1 => 0 ≤ x1.1 ∧ x1.1 ≤ (m_.Airways.length : Int) ∧ (m_.Airways.length : Int) ≤ x1.1) (fun x1 => ((m_.Airways.length : Int) - x1.1 : Int).toNat) (fun x1 => ⟨[(0, some (true, .rp [.int .i64 m_.Junctions, .sl 7 (m_.Airways.map gAirway.v)])), (1, some (true, .int .i64 blocked)), (2, some (true, .int .i64 speed)), (3, some (true, .int .i64 from_)), (4, some (true, .int .i64 to)), (11, some (true, .int .i64 x1.2)), (12, some (true, .int .i64 x1.1))], []⟩) (fun x1 => ⟨[(11, some (true, .int .i64 x1.2))], []⟩) ⟨by omega, by omega⟩ (by omega) (sub_of [] ⟨rfl, rfl, rfl, rfl, rfl, rfl, rfl, trivial⟩ trivial rfl) ?_ ?_
  · intro x1 i7
    obtain ⟨e8, e9, e10⟩ := i7
    try dsimp only at *
    refine run_seq ?_
    refine run_region (q_move .n (.t rfl) rfl <|
        q_assign .n (.t rfl) rfl <|
        Lex.nil) ?_
    exact run_ret [] (.cons (.t rfl rfl) .nil) rfl trivial rfl
  · intro rec1 k1 hk2 x1 i3
    obtain ⟨e11, e12⟩ := i3
    try dsimp only at *
    refine run_seq ?_
    refine run_seq ?_
    refine run_region (q_move .n (.t rfl) rfl <|
        q_move .n (.t rfl) rfl <|
        q_nilc_ro .n (.t rfl) rfl <|
        q_fld_ro .n (.t rfl) fo_26_1 rfl <|
        q_ld1_ro .n (.t rfl) rfl ic_24 rfl <|
        q_len .n (.t rfl) rfl len_map ss_24 rfl <|
        q_int .n (.t rfl) (.t rfl) rfl rfl <|
        Lex.nil) ?_
    refine run_cond (.t rfl) rfl (fun h4 => ?_) (fun h4 => ?_)
    · try simp only [Bool.and_eq_true, Bool.or_eq_true, Bool.not_eq_true', Bool.and_eq_false_iff, Bool.or_eq_false_iff, Bool.not_eq_false', decide_eq_true_eq, decide_eq_false_iff_not, beq_iff_eq, bne_iff_ne, beq_eq_false_iff_ne, bne_eq_false_iff_eq, Bool.true_and, ne_eq, Decidable.not_not, Int.not_lt, Int.not_le, Nat.not_lt, Nat.not_le, strB_nil, strB_nil', strB_nnil, strB_nnil'] at h4
      refine run_skip ?_
      refine run_seq ?_
      refine run_block ?_
      refine run_seq ?_
      refine run_region (q_move .n (.t rfl) rfl <|
          q_nilc_ro .n (.t rfl) rfl <|
          q_fld_ro .n (.t rfl) fo_26_1 rfl <|
          q_ld1_ro .n (.t rfl) rfl ic_24 rfl <|
          q_move .n (.t rfl) rfl <|
          q_idx_rm .n (.t rfl) (.t rfl) sl_24 (fun _ => by omega) rfl <|
          q_assign .n (.t rfl) rfl <|
          Lex.nil) ?_
      refine run_seq ?_
      refine run_seq ?_
      refine run_region (q_move .n (.t rfl) rfl <|
          q_move .n (.t rfl) rfl <|
          q_int .n (.t rfl) (.t rfl) rfl rfl <|
          q_move .n (.t rfl) rfl <|
          q_move (.f rfl rfl) (.t rfl) rfl <|
          q_nilc_ro (.f rfl rfl) (.u rfl id) rfl <|
          q_fld_ro (.f rfl rfl) (.u rfl id) fo_46_1 rfl <|
          q_ld1_ro (.f rfl rfl) (.u rfl id) rfl ic_2 rfl <|
          q_move (.f rfl rfl) (.t rfl) rfl <|
          q_int (.f rfl rfl) (.u rfl id) (.u rfl id) rfl rfl <|
          q_move (.f rfl rfl) (.u rfl id) rfl <|
          q_move (.f rfl rfl) (.t rfl) rfl <|
          q_nilc_ro (.f rfl rfl) (.u rfl id) rfl <|
          q_fld_ro (.f rfl rfl) (.u rfl id) fo_46_2 rfl <|
          q_ld1_ro (.f rfl rfl) (.u rfl id) rfl ic_2 rfl <|
          q_move (.f rfl rfl) (.t rfl) rfl <|
          q_int (.f rfl rfl) (.u rfl id) (.u rfl id) rfl rfl <|
          q_or (.f rfl rfl) (.u rfl id) (.u rfl id) rfl <|
          q_move (.f rfl rfl) (.u rfl id) rfl <|
          q_move (.t rfl rfl) (.t rfl) rfl <|
          q_nilc_ro (.t rfl rfl) (.u rfl id) rfl <|
          q_fld_ro (.t rfl rfl) (.u rfl id) fo_46_1 rfl <|
          q_ld1_ro (.t rfl rfl) (.u rfl id) rfl ic_2 rfl <|
          q_move (.t rfl rfl) (.t rfl) rfl <|
          q_int (.t rfl rfl) (.u rfl id) (.u rfl id) rfl rfl <|
          q_move (.t rfl rfl) (.u rfl id) rfl <|
          q_move (.f rfl rfl) (.t rfl) rfl <|
          q_nilc_ro (.f rfl rfl) (.u rfl id) rfl <|
          q_fld_ro (.f rfl rfl) (.u rfl id) fo_46_2 rfl <|
          q_ld1_ro (.f rfl rfl) (.u rfl id) rfl ic_2 rfl <|
          q_move (.f rfl rfl) (.t rfl) rfl <|
          q_int (.f rfl rfl) (.u rfl id) (.u rfl id) rfl rfl <|
          q_or (.t rfl rfl) (.u rfl id) (.u rfl id) rfl <|
          q_and (.f rfl rfl) (.u rfl id) (.u rfl id) rfl <|
          q_or .n (.t rfl) (.u rfl id) rfl <|
          Lex.nil) ?_
      refine run_cond (.t rfl) rfl (fun h5 => ?_) (fun h5 => ?_)
      · try simp only [Bool.and_eq_true, Bool.or_eq_true, Bool.not_eq_true', Bool.and_eq_false_iff, Bool.or_eq_false_iff, Bool.not_eq_false', decide_eq_true_eq, decide_eq_false_iff_not, beq_iff_eq, bne_iff_ne, beq_eq_false_iff_ne, bne_eq_false_iff_eq, Bool.true_and, ne_eq, Decidable.not_not, Int.not_lt, Int.not_le, Nat.not_lt, Nat.not_le, strB_nil, strB_nil', strB_nnil, strB_nnil'] at h5
        refine run_exit rfl ?_
        refine run_region (q_move .n (.t rfl) rfl <|
            q_add .n (.t rfl) (.c rfl) (fun _ => by omega) rfl <|
            q_assign .n (.t rfl) rfl <|
            Lex.nil) ?_
        exact run_again (x1.1 + 1, x1.2) ⟨by omega, by omega⟩ (by omega) (sub_of [] ⟨rfl, rfl, rfl, rfl, rfl, rfl, rfl, trivial⟩ trivial rfl)
      · try simp only [Bool.and_eq_true, Bool.or_eq_true, Bool.not_eq_true', Bool.and_eq_false_iff, Bool.or_eq_false_iff, Bool.not_eq_false', decide_eq_true_eq, decide_eq_false_iff_not, beq_iff_eq, bne_iff_ne, beq_eq_false_iff_ne, bne_eq_false_iff_eq, Bool.true_and, ne_eq, Decidable.not_not, Int.not_lt, Int.not_le, Nat.not_lt, Nat.not_le, strB_nil, strB_nil', strB_nnil, strB_nnil'] at h5
        refine run_skip ?_
        refine run_seq ?_
        refine run_region (q_move .n (.t rfl) rfl <|
            q_move .n (.t rfl) rfl <|
            q_call0 (full := false) .n .f en_86 (.cons (.t rfl) (.cons (.t rfl) .nil)) (.cons (.b (.a (.same rfl))) (.cons (.b (.a (.same rfl))) .nil)) (fun hg => c_spec_l19Walk (at' m_.Airways x1.1) speed (by omega)) rfl (fun h => Bool.noConfusion h) rfl <|
            q_assign .n (.t rfl) rfl <|
            Lex.nil) ?_
        refine run_seq ?_
        refine run_region (q_move .n (.t rfl) rfl <|
            q_int .n (.t rfl) (.c rfl) rfl rfl <|
            q_move .n (.t rfl) rfl <|
            q_move (.f rfl rfl) (.t rfl) rfl <|
            q_move (.f rfl rfl) (.t rfl) rfl <|
            q_int (.f rfl rfl) (.u rfl id) (.u rfl id) rfl rfl <|
            q_or .n (.t rfl) (.u rfl id) rfl <|
            Lex.nil) ?_
        refine run_cond (.t rfl) rfl (fun h6 => ?_) (fun h6 => ?_)
        · try simp only [Bool.and_eq_true, Bool.or_eq_true, Bool.not_eq_true', Bool.and_eq_false_iff, Bool.or_eq_false_iff, Bool.not_eq_false', decide_eq_true_eq, decide_eq_false_iff_not, beq_iff_eq, bne_iff_ne, beq_eq_false_iff_ne, bne_eq_false_iff_eq, Bool.true_and, ne_eq, Decidable.not_not, Int.not_lt, Int.not_le, Nat.not_lt, Nat.not_le, strB_nil, strB_nil', strB_nnil, strB_nnil'] at h6
          refine run_region (q_move .n (.t rfl) rfl <|
              q_assign .n (.t rfl) rfl <|
              Lex.nil) ?_
          refine run_endB ?_
          refine run_region (q_move .n (.t rfl) rfl <|
              q_add .n (.t rfl) (.c rfl) (fun _ => by omega) rfl <|
              q_assign .n (.t rfl) rfl <|
              Lex.nil) ?_
          exact run_again (x1.1 + 1, m_spec_l19Walk (at' m_.Airways x1.1) speed) ⟨by omega, by omega⟩ (by omega) (sub_of [] ⟨rfl, rfl, rfl, rfl, rfl, rfl, rfl, trivial⟩ trivial rfl)
        · try simp only [Bool.and_eq_true, Bool.or_eq_true, Bool.not_eq_true', Bool.and_eq_false_iff, Bool.or_eq_false_iff, Bool.not_eq_false', decide_eq_true_eq, decide_eq_false_iff_not, beq_iff_eq, bne_iff_ne, beq_eq_false_iff_ne, bne_eq_false_iff_eq, Bool.true_and, ne_eq, Decidable.not_not, Int.not_lt, Int.not_le, Nat.not_lt, Nat.not_le, strB_nil, strB_nil', strB_nnil, strB_nnil'] at h6
          refine run_skip ?_
          refine run_endB ?_
          refine run_region (q_move .n (.t rfl) rfl <|
              q_add .n (.t rfl) (.c rfl) (fun _ => by omega) rfl <|
              q_assign .n (.t rfl) rfl <|
              Lex.nil) ?_
          exact run_again (x1.1 + 1, x1.2) ⟨by omega, by omega⟩ (by omega) (sub_of [] ⟨rfl, rfl, rfl, rfl, rfl, rfl, rfl, trivial⟩ trivial rfl)
    · try simp only [Bool.and_eq_true, Bool.or_eq_true, Bool.not_eq_true', Bool.and_eq_false_iff, Bool.or_eq_false_iff, Bool.not_eq_false', decide_eq_true_eq, decide_eq_false_iff_not, beq_iff_eq, bne_iff_ne, beq_eq_false_iff_ne, bne_eq_false_iff_eq, Bool.true_and, ne_eq, Decidable.not_not, Int.not_lt, Int.not_le, Nat.not_lt, Nat.not_le, strB_nil, strB_nil', strB_nnil, strB_nnil'] at h4
      refine run_exit rfl ?_
      exact run_cont hk2 (x1.1, x1.2) ⟨by omega, by omega, by omega⟩ (sub_of [] ⟨rfl, trivial⟩ trivial rfl)

/-! ### spec_EscapeRoute -/
set_option maxRecDepth 100000 in
set_option maxHeartbeats 4000000 in
theorem c_spec_EscapeRoute (m_ : gMine) (arrivals : List Int) (blocked : Int) (c_ : gCrew) (start : Int) (exits : List Int) : Con Try.prog 12 [.st [.int .i64 m_.Junctions, .sl 7 (m_.Airways.map gAirway.v)], .sl 1 (arrivals.map (V.int .i64)), .int .i64 blocked, .st [.str c_.Id, .int .i64 c_.Junction, .int .i64 c_.Speed], .int .i64 start, .sl 1 (exits.map (V.int .i64))] [] (.tup [.os 100 (m_spec_EscapeRoute m_ arrivals blocked c_ start exits).1.length, .int .i64 (m_spec_EscapeRoute m_ arrivals blocked c_ start exits).2.1, .int .i64 (m_spec_EscapeRoute m_ arrivals blocked c_ start exits).2.2]) ([(100, some (.row 2 1 ((m_spec_EscapeRoute m_ arrivals blocked c_ start exits).1.map (V.int .i64))))]) := by
  refine con_intro (out := fun r : (List Int) × Int × Int => ((.tup [.os 100 r.1.length, .int .i64 r.2.1, .int .i64 r.2.2] : V), ([(100, some (.row 2 1 (r.1.map (V.int .i64))))] : List (Nat × Option O)))) (r := (m_spec_EscapeRoute m_ arrivals blocked c_ start exits)) Try.func12 rfl Try.ntmps12 rfl ?_
  refine run_factS (t := 0) 1 rfl rfl fun hl => ?_
  have l1 := hl; clear hl; simp only [List.length_map] at l1
  refine run_fact (t := 1) rfl fun hl => ?_
  have l2 := hl; clear hl; simp only [List.length_map] at l2
  refine run_fact (t := 5) rfl fun hl => ?_
  have l3 := hl; clear hl; simp only [List.length_map] at l3
  refine run_seq ?_
  refine run_region (q_box (l := 200) .n rfl (.t rfl) rfl rfl rfl rfl <|
      q_box (l := 201) .n rfl (.t rfl) rfl rfl rfl rfl <|
      q_assign .n (.c rfl) rfl <|
      q_assign .n (.c rfl) rfl <|
      q_assign .n (.c rfl) rfl <|
      Lex.nil) ?_
  refine run_seq ?_
  refine run_region (q_move .n (.t rfl) rfl <|
      q_move .n (.t rfl) rfl <|
      q_move .n (.t rfl) rfl <|
      q_call0 (full := true) .n .f en_39 (.cons (.t rfl) (.cons (.t rfl) (.cons (.t rfl) (.cons (.t rfl) (.cons (.t rfl) .nil))))) (.cons (.b (.ptr rfl rfl (.inr rfl) rfl rfl (.cons (.same rfl) (.cons (.same rfl) .nil)))) (.cons (.b (.a (.same rfl))) (.cons (.b (.a (.same rfl))) (.cons (.b (.ptr rfl rfl (.inr rfl) rfl rfl (.cons (.same rfl) (.cons (.same rfl) (.cons (.same rfl) .nil))))) (.cons (.b (.a (.same rfl))) .nil))))) (fun hg => c_spec_l19Ask m_ arrivals blocked c_ start) rfl (fun _ => rfl) rfl <|
      q_assign .n (.t rfl) rfl <|
      Lex.nil) ?_
  refine run_seq ?_
  refine run_seq ?_
  refine run_region (q_move .n (.t rfl) rfl <|
      q_int .n (.t rfl) (.c rfl) rfl rfl <|
      Lex.nil) ?_
  refine run_cond (.t rfl) rfl (fun h4 => ?_) (fun h4 => ?_)
  · try simp only [Bool.and_eq_true, Bool.or_eq_true, Bool.not_eq_true', Bool.and_eq_false_iff, Bool.or_eq_false_iff, Bool.not_eq_false', decide_eq_true_eq, decide_eq_false_iff_not, beq_iff_eq, bne_iff_ne, beq_eq_false_iff_ne, bne_eq_false_iff_eq, Bool.true_and, ne_eq, Decidable.not_not, Int.not_lt, Int.not_le, Nat.not_lt, Nat.not_le, strB_nil, strB_nil', strB_nnil, strB_nnil'] at h4
    try have hf0h4 := l19Ask_impM h4
    try have hf1h4 := l19Ask_impM h4.1
    try have hf2h4 := l19Ask_impM h4.2
    try have hf3h4 := l19Ask_impM h4.1.1
    try have hf4h4 := l19Ask_impM h4.1.2
    try have hf5h4 := l19Ask_impM h4.2.1
    try have hf6h4 := l19Ask_impM h4.2.2
    try have hf7h4 := l19Ask_impC h4
    try have hf8h4 := l19Ask_impC h4.1
    try have hf9h4 := l19Ask_impC h4.2
    try have hf10h4 := l19Ask_impC h4.1.1
    try have hf11h4 := l19Ask_impC h4.1.2
    try have hf12h4 := l19Ask_impC h4.2.1
    try have hf13h4 := l19Ask_impC h4.2.2
    try have hf14h4 := l19Ask_impS h4
    try have hf15h4 := l19Ask_impS h4.1
    try have hf16h4 := l19Ask_impS h4.2
    try have hf17h4 := l19Ask_impS h4.1.1
    try have hf18h4 := l19Ask_impS h4.1.2
    try have hf19h4 := l19Ask_impS h4.2.1
    try have hf20h4 := l19Ask_impS h4.2.2
    try have hf21h4 := l19Ask_impL h4
    try have hf22h4 := l19Ask_impL h4.1
    try have hf23h4 := l19Ask_impL h4.2
    try have hf24h4 := l19Ask_impL h4.1.1
    try have hf25h4 := l19Ask_impL h4.1.2
    try have hf26h4 := l19Ask_impL h4.2.1
    try have hf27h4 := l19Ask_impL h4.2.2
    refine run_seq ?_
    refine run_region (q_move .n (.t rfl) rfl <|
        q_assign .n (.c rfl) rfl <|
        q_assign .n (.c rfl) rfl <|
        q_assign .n (.t rfl) rfl <|
        Lex.nil) ?_
    refine run_sub (sub_adopt (t := 12) (l := 202) (el := 2) (sz := 1) rfl rfl) ?_
    exact run_ret [(100, 202)] (.cons (.t rfl rfl) (.cons (.t rfl rfl) (.cons (.t rfl rfl) .nil))) (by first | rfl | (simp only [put_len]; rfl)) ⟨rfl, trivial⟩ rfl
  · try simp only [Bool.and_eq_true, Bool.or_eq_true, Bool.not_eq_true', Bool.and_eq_false_iff, Bool.or_eq_false_iff, Bool.not_eq_false', decide_eq_true_eq, decide_eq_false_iff_not, beq_iff_eq, bne_iff_ne, beq_eq_false_iff_ne, bne_eq_false_iff_eq, Bool.true_and, ne_eq, Decidable.not_not, Int.not_lt, Int.not_le, Nat.not_lt, Nat.not_le, strB_nil, strB_nil', strB_nnil, strB_nnil'] at h4
    try have hf0h4 := l19Ask_impM h4
    try have hf1h4 := l19Ask_impM h4.1
    try have hf2h4 := l19Ask_impM h4.2
    try have hf3h4 := l19Ask_impM h4.1.1
    try have hf4h4 := l19Ask_impM h4.1.2
    try have hf5h4 := l19Ask_impM h4.2.1
    try have hf6h4 := l19Ask_impM h4.2.2
    try have hf7h4 := l19Ask_impC h4
    try have hf8h4 := l19Ask_impC h4.1
    try have hf9h4 := l19Ask_impC h4.2
    try have hf10h4 := l19Ask_impC h4.1.1
    try have hf11h4 := l19Ask_impC h4.1.2
    try have hf12h4 := l19Ask_impC h4.2.1
    try have hf13h4 := l19Ask_impC h4.2.2
    try have hf14h4 := l19Ask_impS h4
    try have hf15h4 := l19Ask_impS h4.1
    try have hf16h4 := l19Ask_impS h4.2
    try have hf17h4 := l19Ask_impS h4.1.1
    try have hf18h4 := l19Ask_impS h4.1.2
    try have hf19h4 := l19Ask_impS h4.2.1
    try have hf20h4 := l19Ask_impS h4.2.2
    try have hf21h4 := l19Ask_impL h4
    try have hf22h4 := l19Ask_impL h4.1
    try have hf23h4 := l19Ask_impL h4.2
    try have hf24h4 := l19Ask_impL h4.1.1
    try have hf25h4 := l19Ask_impL h4.1.2
    try have hf26h4 := l19Ask_impL h4.2.1
    try have hf27h4 := l19Ask_impL h4.2.2
    refine run_skip ?_
    refine run_seq ?_
    refine run_seq ?_
    refine run_region (q_move .n (.t rfl) rfl <|
        q_fld_ow .n (.t rfl) fo_26_0 rfl <|
        q_ld1_ow .n (.t rfl) rfl (.inr rfl) (fun _ => rfl) rfl ic_2 rfl <|
        q_int .n (.t rfl) (.c rfl) rfl rfl <|
        q_call0 (full := false) .n .f en_40 (.cons (.t rfl) (.cons (.c rfl) (.cons (.t rfl) .nil))) (.cons (.b (.a (.same rfl))) (.cons (.b (.a (.same rfl))) (.cons (.b (.a (.same rfl))) .nil))) (fun hg => c_spec_l00Rises exits 0 (IntKind.wrap .i64 (m_.Junctions - 1))) rfl (fun h => Bool.noConfusion h) rfl <|
        q_not .n (.t rfl) rfl <|
        Lex.nil) ?_
    refine run_cond (.t rfl) rfl (fun h5 => ?_) (fun h5 => ?_)
    · try simp only [Bool.and_eq_true, Bool.or_eq_true, Bool.not_eq_true', Bool.and_eq_false_iff, Bool.or_eq_false_iff, Bool.not_eq_false', decide_eq_true_eq, decide_eq_false_iff_not, beq_iff_eq, bne_iff_ne, beq_eq_false_iff_ne, bne_eq_false_iff_eq, Bool.true_and, ne_eq, Decidable.not_not, Int.not_lt, Int.not_le, Nat.not_lt, Nat.not_le, strB_nil, strB_nil', strB_nnil, strB_nnil'] at h5
      refine run_seq ?_
      refine run_region (q_assign .n (.c rfl) rfl <|
          q_assign .n (.c rfl) rfl <|
          q_assign .n (.c rfl) rfl <|
          Lex.nil) ?_
      refine run_sub (sub_adopt (t := 12) (l := 203) (el := 2) (sz := 1) rfl rfl) ?_
      exact run_ret [(100, 203)] (.cons (.t rfl rfl) (.cons (.t rfl rfl) (.cons (.t rfl rfl) .nil))) (by first | rfl | (simp only [put_len]; rfl)) ⟨rfl, trivial⟩ rfl
    · try simp only [Bool.and_eq_true, Bool.or_eq_true, Bool.not_eq_true', Bool.and_eq_false_iff, Bool.or_eq_false_iff, Bool.not_eq_false', decide_eq_true_eq, decide_eq_false_iff_not, beq_iff_eq, bne_iff_ne, beq_eq_false_iff_ne, bne_eq_false_iff_eq, Bool.true_and, ne_eq, Decidable.not_not, Int.not_lt, Int.not_le, Nat.not_lt, Nat.not_le, strB_nil, strB_nil', strB_nnil, strB_nnil'] at h5
      refine run_skip ?_
      refine run_seq ?_
      refine run_region (q_move .n (.t rfl) rfl <|
          q_move .n (.t rfl) rfl <|
          q_move .n (.t rfl) rfl <|
          q_callM (full := true) [] [(100, 204)] .n rfl .f en_41 (.cons (.t rfl) (.cons (.t rfl) (.cons (.t rfl) (.cons (.t rfl) (.cons (.t rfl) .nil))))) (.cons (.b (.ptr rfl rfl (.inr rfl) rfl rfl (.cons (.same rfl) (.cons (.same rfl) .nil)))) (.cons (.b (.a (.same rfl))) (.cons (.b (.a (.same rfl))) (.cons (.b (.ptr rfl rfl (.inr rfl) rfl rfl (.cons (.same rfl) (.cons (.same rfl) (.cons (.same rfl) .nil))))) (.cons (.b (.a (.same rfl))) .nil))))) (c_spec_l19Times m_ arrivals blocked c_ start (by omega) (by omega) (by omega) (by omega)) trivial rfl rfl (fun _ => rfl) (fun _ => (hr_row (fun _ => rfl) hr_nil)) rfl <|
          q_assign .n (.t rfl) rfl <|
          Lex.nil) ?_
      refine run_seq ?_
      refine run_region (q_move .n (.t rfl) rfl <|
          q_move .n (.t rfl) rfl <|
          q_call0 (full := true) .n .f en_42 (.cons (.t rfl) (.cons (.t rfl) .nil)) (.cons (.b (.a (.own rfl rfl rfl (take_all (by simp only [len_map, put_len] <;> rfl)) (by simp only [len_map, put_len] <;> rfl)))) (.cons (.b (.a (.same rfl))) .nil)) (fun hg => c_spec_l19Exit (m_spec_l19Times m_ arrivals blocked c_ start) exits (by ((have hx1 := l19Ask_impM (m := m_) (arr := arrivals) (blocked := blocked) (c := c_) (start := start) (by assumption); have hx2 := l19Ask_impC (m := m_) (arr := arrivals) (blocked := blocked) (c := c_) (start := start) (by assumption); have hx3 := l19Ask_impS (m := m_) (arr := arrivals) (blocked := blocked) (c := c_) (start := start) (by assumption); have hxJ := hx1.1; have hxC := hx2.2; have hxT := rtL (arr := arrivals) (blocked := blocked) hx1 hx2 hx3; first | exact rtE hx1 hx2 hx3 (by assumption) | (have hy := rtS hx1 hx2 hx3 (by assumption) (by assumption); have hz := hy.1.1; first | omega | exact hy | exact Nat.lt_succ_of_le (rank_le _ _ _)) | exact way_start hx1 hx2 hx3 (by assumption) (by assumption) | exact way_next (by assumption) (by assumption) | (have hw : WayOn m_ arrivals blocked c_ start x1.1 x2 := (by assumption); have hv := hw.1; have hI : RtI (m_spec_l19Times m_ arrivals blocked c_ start) m_.Junctions x1.2.length x1.1 := (by assumption); have hI1 := hI.1.1; have hI2 := hI.2; first | omega | (simp only [List.length_append, List.length_cons, List.length_nil] at *; omega) | (have hq := way_end hx1 hx2 hx3 hI hv (by assumption); first | exact hq.2 | (have hq1 := hq.1; simp only [List.length_append, List.length_cons, List.length_nil]; rw [Nat.add_comm]; exact hq1))) | (have hI : RtI (m_spec_l19Times m_ arrivals blocked c_ start) m_.Junctions x1.2.length x1.1 := (by assumption); have hI1 := hI.1.1; have hI2 := hI.2; first | omega | (simp only [List.length_append, List.length_cons, List.length_nil] at *; omega) | (have hq := way_end (arr := arrivals) (blocked := blocked) (x := x2) hx1 hx2 hx3 hI (by omega) (by assumption); first | exact hq.2 | (have hq1 := hq.1; simp only [List.length_append, List.length_cons, List.length_nil]; rw [Nat.add_comm]; exact hq1))))))) rfl (fun _ => rfl) rfl <|
          q_assign .n (.t rfl) rfl <|
          Lex.nil) ?_
      refine run_seq ?_
      refine run_seq ?_
      refine run_region (q_move .n (.t rfl) rfl <|
          q_int .n (.t rfl) (.c rfl) rfl rfl <|
          Lex.nil) ?_
      refine run_cond (.t rfl) rfl (fun h6 => ?_) (fun h6 => ?_)
      · try simp only [Bool.and_eq_true, Bool.or_eq_true, Bool.not_eq_true', Bool.and_eq_false_iff, Bool.or_eq_false_iff, Bool.not_eq_false', decide_eq_true_eq, decide_eq_false_iff_not, beq_iff_eq, bne_iff_ne, beq_eq_false_iff_ne, bne_eq_false_iff_eq, Bool.true_and, ne_eq, Decidable.not_not, Int.not_lt, Int.not_le, Nat.not_lt, Nat.not_le, strB_nil, strB_nil', strB_nnil, strB_nnil'] at h6
        refine run_seq ?_
        refine run_region (q_assign .n (.c rfl) rfl <|
            q_assign .n (.c rfl) rfl <|
            q_assign .n (.c rfl) rfl <|
            Lex.nil) ?_
        refine run_sub (sub_adopt (t := 12) (l := 205) (el := 2) (sz := 1) rfl rfl) ?_
        exact run_ret [(100, 205)] (.cons (.t rfl rfl) (.cons (.t rfl rfl) (.cons (.t rfl rfl) .nil))) (by first | rfl | (simp only [put_len]; rfl)) ⟨rfl, trivial⟩ rfl
      · try simp only [Bool.and_eq_true, Bool.or_eq_true, Bool.not_eq_true', Bool.and_eq_false_iff, Bool.or_eq_false_iff, Bool.not_eq_false', decide_eq_true_eq, decide_eq_false_iff_not, beq_iff_eq, bne_iff_ne, beq_eq_false_iff_ne, bne_eq_false_iff_eq, Bool.true_and, ne_eq, Decidable.not_not, Int.not_lt, Int.not_le, Nat.not_lt, Nat.not_le, strB_nil, strB_nil', strB_nnil, strB_nnil'] at h6
        refine run_skip ?_
        refine run_seq ?_
        refine run_region (q_move .n (.t rfl) rfl <|
            q_move .n (.t rfl) rfl <|
            q_idx_ow .n (.t rfl) (.t rfl) sl_28 (fun _ => by ((have hx1 := l19Ask_impM (m := m_) (arr := arrivals) (blocked := blocked) (c := c_) (start := start) (by assumption); have hx2 := l19Ask_impC (m := m_) (arr := arrivals) (blocked := blocked) (c := c_) (start := start) (by assumption); have hx3 := l19Ask_impS (m := m_) (arr := arrivals) (blocked := blocked) (c := c_) (start := start) (by assumption); have hxJ := hx1.1; have hxC := hx2.2; have hxT := rtL (arr := arrivals) (blocked := blocked) hx1 hx2 hx3; first | exact rtE hx1 hx2 hx3 (by assumption) | (have hy := rtS hx1 hx2 hx3 (by assumption) (by assumption); have hz := hy.1.1; first | omega | exact hy | exact Nat.lt_succ_of_le (rank_le _ _ _)) | exact way_start hx1 hx2 hx3 (by assumption) (by assumption) | exact way_next (by assumption) (by assumption) | (have hw : WayOn m_ arrivals blocked c_ start x1.1 x2 := (by assumption); have hv := hw.1; have hI : RtI (m_spec_l19Times m_ arrivals blocked c_ start) m_.Junctions x1.2.length x1.1 := (by assumption); have hI1 := hI.1.1; have hI2 := hI.2; first | omega | (simp only [List.length_append, List.length_cons, List.length_nil] at *; omega) | (have hq := way_end hx1 hx2 hx3 hI hv (by assumption); first | exact hq.2 | (have hq1 := hq.1; simp only [List.length_append, List.length_cons, List.length_nil]; rw [Nat.add_comm]; exact hq1))) | (have hI : RtI (m_spec_l19Times m_ arrivals blocked c_ start) m_.Junctions x1.2.length x1.1 := (by assumption); have hI1 := hI.1.1; have hI2 := hI.2; first | omega | (simp only [List.length_append, List.length_cons, List.length_nil] at *; omega) | (have hq := way_end (arr := arrivals) (blocked := blocked) (x := x2) hx1 hx2 hx3 hI (by omega) (by assumption); first | exact hq.2 | (have hq1 := hq.1; simp only [List.length_append, List.length_cons, List.length_nil]; rw [Nat.add_comm]; exact hq1)))))) rfl <|
            q_ld1_row .n (.t rfl) rfl (fun _ => by ((have hx1 := l19Ask_impM (m := m_) (arr := arrivals) (blocked := blocked) (c := c_) (start := start) (by assumption); have hx2 := l19Ask_impC (m := m_) (arr := arrivals) (blocked := blocked) (c := c_) (start := start) (by assumption); have hx3 := l19Ask_impS (m := m_) (arr := arrivals) (blocked := blocked) (c := c_) (start := start) (by assumption); have hxJ := hx1.1; have hxC := hx2.2; have hxT := rtL (arr := arrivals) (blocked := blocked) hx1 hx2 hx3; first | exact rtE hx1 hx2 hx3 (by assumption) | (have hy := rtS hx1 hx2 hx3 (by assumption) (by assumption); have hz := hy.1.1; first | omega | exact hy | exact Nat.lt_succ_of_le (rank_le _ _ _)) | exact way_start hx1 hx2 hx3 (by assumption) (by assumption) | exact way_next (by assumption) (by assumption) | (have hw : WayOn m_ arrivals blocked c_ start x1.1 x2 := (by assumption); have hv := hw.1; have hI : RtI (m_spec_l19Times m_ arrivals blocked c_ start) m_.Junctions x1.2.length x1.1 := (by assumption); have hI1 := hI.1.1; have hI2 := hI.2; first | omega | (simp only [List.length_append, List.length_cons, List.length_nil] at *; omega) | (have hq := way_end hx1 hx2 hx3 hI hv (by assumption); first | exact hq.2 | (have hq1 := hq.1; simp only [List.length_append, List.length_cons, List.length_nil]; rw [Nat.add_comm]; exact hq1))) | (have hI : RtI (m_spec_l19Times m_ arrivals blocked c_ start) m_.Junctions x1.2.length x1.1 := (by assumption); have hI1 := hI.1.1; have hI2 := hI.2; first | omega | (simp only [List.length_append, List.length_cons, List.length_nil] at *; omega) | (have hq := way_end (arr := arrivals) (blocked := blocked) (x := x2) hx1 hx2 hx3 hI (by omega) (by assumption); first | exact hq.2 | (have hq1 := hq.1; simp only [List.length_append, List.length_cons, List.length_nil]; rw [Nat.add_comm]; exact hq1)))))) rfl rfl rfl ic_2 rfl <|
            q_assign .n (.t rfl) rfl <|
            Lex.nil) ?_
        refine run_seq ?_
        refine run_region (q_move .n (.t rfl) rfl <|
            q_bslicem ([m_spec_l19Exit (m_spec_l19Times m_ arrivals blocked c_ start) exits] : List Int) (f := V.int .i64) (l := 206) .n rfl rfl (.cons (.t rfl) .nil) rfl si_28 zv_2 rfl rfl rfl <|
            q_assign .n (.t rfl) rfl <|
            Lex.nil) ?_
        refine run_seq ?_
        refine run_block ?_
        refine run_LOOP (m_spec_EscapeRoute_b1 m_ arrivals blocked c_ start exits) _ _ _ rfl (fun (x1 : Int × (List Int)) => RtI (m_spec_l19Times m_ arrivals blocked c_ start) m_.Junctions x1.2.length x1.1) (fun x1 => RtI (m_spec_l19Times m_ arrivals blocked c_ start) m_.Junctions x1.2.length x1.1) (fun x1 => rank (m_spec_l19Times m_ arrivals blocked c_ start) m_.Junctions x1.1) (fun x1 => ⟨[(2, some (true, .int .i64 blocked)), (6, some (true, .op 200 0 0 0)), (9, some (true, .op 201 0 0 0)), (16, some (true, .os 204 (m_spec_l19Times m_ arrivals blocked c_ start).length)), (17, some (true, .int .i64 x1.1)), (18, some (true, .int .i64 (at' (m_spec_l19Times m_ arrivals blocked c_ start) (m_spec_l19Exit (m_spec_l19Times m_ arrivals blocked c_ start) exits)))), (19, some (true, .os 206 x1.2.length))], [(200, some (.box 26 [.int .i64 m_.Junctions, .sl 7 (m_.Airways.map gAirway.v)])), (201, some (.box 34 [.str c_.Id, .int .i64 c_.Junction, .int .i64 c_.Speed])), (204, some (.row 2 1 ((m_spec_l19Times m_ arrivals blocked c_ start).map (V.int .i64)))), (206, some (.row 2 1 (x1.2.map (V.int .i64))))]⟩) (fun x1 => ⟨[(18, some (true, .int .i64 (at' (m_spec_l19Times m_ arrivals blocked c_ start) (m_spec_l19Exit (m_spec_l19Times m_ arrivals blocked c_ start) exits)))), (19, some (true, .os 206 x1.2.length))], [(206, some (.row 2 1 (x1.2.map (V.int .i64))))]⟩) (by ((have hx1 := l19Ask_impM (m := m_) (arr := arrivals) (blocked := blocked) (c := c_) (start := start) (by assumption); have hx2 := l19Ask_impC (m := m_) (arr := arrivals) (blocked := blocked) (c := c_) (start := start) (by assumption); have hx3 := l19Ask_impS (m := m_) (arr := arrivals) (blocked := blocked) (c := c_) (start := start) (by assumption); have hxJ := hx1.1; have hxC := hx2.2; have hxT := rtL (arr := arrivals) (blocked := blocked) hx1 hx2 hx3; first | exact rtE hx1 hx2 hx3 (by assumption) | (have hy := rtS hx1 hx2 hx3 (by assumption) (by assumption); have hz := hy.1.1; first | omega | exact hy | exact Nat.lt_succ_of_le (rank_le _ _ _)) | exact way_start hx1 hx2 hx3 (by assumption) (by assumption) | exact way_next (by assumption) (by assumption) | (have hw : WayOn m_ arrivals blocked c_ start x1.1 x2 := (by assumption); have hv := hw.1; have hI : RtI (m_spec_l19Times m_ arrivals blocked c_ start) m_.Junctions x1.2.length x1.1 := (by assumption); have hI1 := hI.1.1; have hI2 := hI.2; first | omega | (simp only [List.length_append, List.length_cons, List.length_nil] at *; omega) | (have hq := way_end hx1 hx2 hx3 hI hv (by assumption); first | exact hq.2 | (have hq1 := hq.1; simp only [List.length_append, List.length_cons, List.length_nil]; rw [Nat.add_comm]; exact hq1))) | (have hI : RtI (m_spec_l19Times m_ arrivals blocked c_ start) m_.Junctions x1.2.length x1.1 := (by assumption); have hI1 := hI.1.1; have hI2 := hI.2; first | omega | (simp only [List.length_append, List.length_cons, List.length_nil] at *; omega) | (have hq := way_end (arr := arrivals) (blocked := blocked) (x := x2) hx1 hx2 hx3 hI (by omega) (by assumption); first | exact hq.2 | (have hq1 := hq.1; simp only [List.length_append, List.length_cons, List.length_nil]; rw [Nat.add_comm]; exact hq1)))))) (by ((have hx1 := l19Ask_impM (m := m_) (arr := arrivals) (blocked := blocked) (c := c_) (start := start) (by assumption); have hx2 := l19Ask_impC (m := m_) (arr := arrivals) (blocked := blocked) (c := c_) (start := start) (by assumption); have hx3 := l19Ask_impS (m := m_) (arr := arrivals) (blocked := blocked) (c := c_) (start := start) (by assumption); have hxJ := hx1.1; have hxC := hx2.2; have hxT := rtL (arr := arrivals) (blocked := blocked) hx1 hx2 hx3; first | exact rtE hx1 hx2 hx3 (by assumption) | (have hy := rtS hx1 hx2 hx3 (by assumption) (by assumption); have hz := hy.1.1; first | omega | exact hy | exact Nat.lt_succ_of_le (rank_le _ _ _)) | exact way_start hx1 hx2 hx3 (by assumption) (by assumption) | exact way_next (by assumption) (by assumption) | (have hw : WayOn m_ arrivals blocked c_ start x1.1 x2 := (by assumption); have hv := hw.1; have hI : RtI (m_spec_l19Times m_ arrivals blocked c_ start) m_.Junctions x1.2.length x1.1 := (by assumption); have hI1 := hI.1.1; have hI2 := hI.2; first | omega | (simp only [List.length_append, List.length_cons, List.length_nil] at *; omega) | (have hq := way_end hx1 hx2 hx3 hI hv (by assumption); first | exact hq.2 | (have hq1 := hq.1; simp only [List.length_append, List.length_cons, List.length_nil]; rw [Nat.add_comm]; exact hq1))) | (have hI : RtI (m_spec_l19Times m_ arrivals blocked c_ start) m_.Junctions x1.2.length x1.1 := (by assumption); have hI1 := hI.1.1; have hI2 := hI.2; first | omega | (simp only [List.length_append, List.length_cons, List.length_nil] at *; omega) | (have hq := way_end (arr := arrivals) (blocked := blocked) (x := x2) hx1 hx2 hx3 hI (by omega) (by assumption); first | exact hq.2 | (have hq1 := hq.1; simp only [List.length_append, List.length_cons, List.length_nil]; rw [Nat.add_comm]; exact hq1)))))) (sub_of [] ⟨rfl, rfl, rfl, rfl, rfl, rfl, rfl, trivial⟩ ⟨rfl, rfl, rfl, rfl, trivial⟩ rfl) ?_ ?_
        · intro x1 i18
          have e19 := i18
          try dsimp only at *
          refine run_seq ?_
          refine run_region (q_move .n (.t rfl) rfl <|
              q_move .n (.t rfl) rfl <|
              q_assign .n (.t rfl) rfl <|
              q_assign .n (.t rfl) rfl <|
              q_assign .n (.c rfl) rfl <|
              Lex.nil) ?_
          exact run_ret [(100, 206)] (.cons (.t rfl rfl) (.cons (.t rfl rfl) (.cons (.t rfl rfl) .nil))) (by first | rfl | (simp only [put_len]; rfl)) ⟨rfl, trivial⟩ rfl
        · intro rec1 k1 hk7 x1 i8
          have e20 := i8
          try dsimp only at *
          refine run_seq ?_
          refine run_seq ?_
          refine run_region (q_move .n (.t rfl) rfl <|
              q_fld_ow .n (.t rfl) fo_34_1 rfl <|
              q_ld1_ow .n (.t rfl) rfl (.inr rfl) (fun _ => rfl) rfl ic_2 rfl <|
              q_int .n (.t rfl) (.t rfl) rfl rfl <|
              Lex.nil) ?_
          refine run_cond (.t rfl) rfl (fun h9 => ?_) (fun h9 => ?_)
          · try simp only [Bool.and_eq_true, Bool.or_eq_true, Bool.not_eq_true', Bool.and_eq_false_iff, Bool.or_eq_false_iff, Bool.not_eq_false', decide_eq_true_eq, decide_eq_false_iff_not, beq_iff_eq, bne_iff_ne, beq_eq_false_iff_ne, bne_eq_false_iff_eq, Bool.true_and, ne_eq, Decidable.not_not, Int.not_lt, Int.not_le, Nat.not_lt, Nat.not_le, strB_nil, strB_nil', strB_nnil, strB_nnil'] at h9
            refine run_skip ?_
            refine run_block ?_
            refine run_seq ?_
            refine run_region (q_assign .n (.c rfl) rfl <|
                Lex.nil) ?_
            refine run_seq ?_
            refine run_block ?_
            refine run_LOOP (m_spec_EscapeRoute_b2 m_ arrivals blocked c_ start exits rec1 k1 x1) _ _ _ rfl (fun (x2 : Int) => 0 ≤ x2 ∧ WayOn m_ arrivals blocked c_ start x1.1 x2) (fun x2 => (0 ≤ x2 ∧ x2 < m_.Junctions) ∧ ((0 ≤ m_spec_l19Step m_ blocked c_.Speed x2 x1.1 ∧ 0 ≤ at' (m_spec_l19Times m_ arrivals blocked c_ start) x2) ∧ IntKind.wrap .i64 (at' (m_spec_l19Times m_ arrivals blocked c_ start) x2 + m_spec_l19Step m_ blocked c_.Speed x2 x1.1) = at' (m_spec_l19Times m_ arrivals blocked c_ start) x1.1)) (fun x2 => (m_.Junctions - x2 : Int).toNat) (fun x2 => ⟨[(2, some (true, .int .i64 blocked)), (6, some (true, .op 200 0 0 0)), (9, some (true, .op 201 0 0 0)), (16, some (true, .os 204 (m_spec_l19Times m_ arrivals blocked c_ start).length)), (17, some (true, .int .i64 x1.1)), (18, some (true, .int .i64 (at' (m_spec_l19Times m_ arrivals blocked c_ start) (m_spec_l19Exit (m_spec_l19Times m_ arrivals blocked c_ start) exits)))), (19, some (true, .os 206 x1.2.length)), (20, some (true, .int .i64 x2))], [(200, some (.box 26 [.int .i64 m_.Junctions, .sl 7 (m_.Airways.map gAirway.v)])), (201, some (.box 34 [.str c_.Id, .int .i64 c_.Junction, .int .i64 c_.Speed])), (204, some (.row 2 1 ((m_spec_l19Times m_ arrivals blocked c_ start).map (V.int .i64)))), (206, some (.row 2 1 (x1.2.map (V.int .i64))))]⟩) (fun x2 => ⟨[(2, some (true, .int .i64 blocked)), (6, some (true, .op 200 0 0 0)), (9, some (true, .op 201 0 0 0)), (16, some (true, .os 204 (m_spec_l19Times m_ arrivals blocked c_ start).length)), (18, some (true, .int .i64 (at' (m_spec_l19Times m_ arrivals blocked c_ start) (m_spec_l19Exit (m_spec_l19Times m_ arrivals blocked c_ start) exits)))), (19, some (true, .os 206 x1.2.length)), (20, some (true, .int .i64 x2))], [(200, some (.box 26 [.int .i64 m_.Junctions, .sl 7 (m_.Airways.map gAirway.v)])), (201, some (.box 34 [.str c_.Id, .int .i64 c_.Junction, .int .i64 c_.Speed])), (204, some (.row 2 1 ((m_spec_l19Times m_ arrivals blocked c_ start).map (V.int .i64)))), (206, some (.row 2 1 (x1.2.map (V.int .i64))))]⟩) ⟨by omega, by ((have hx1 := l19Ask_impM (m := m_) (arr := arrivals) (blocked := blocked) (c := c_) (start := start) (by assumption); have hx2 := l19Ask_impC (m := m_) (arr := arrivals) (blocked := blocked) (c := c_) (start := start) (by assumption); have hx3 := l19Ask_impS (m := m_) (arr := arrivals) (blocked := blocked) (c := c_) (start := start) (by assumption); have hxJ := hx1.1; have hxC := hx2.2; have hxT := rtL (arr := arrivals) (blocked := blocked) hx1 hx2 hx3; first | exact rtE hx1 hx2 hx3 (by assumption) | (have hy := rtS hx1 hx2 hx3 (by assumption) (by assumption); have hz := hy.1.1; first | omega | exact hy | exact Nat.lt_succ_of_le (rank_le _ _ _)) | exact way_start hx1 hx2 hx3 (by assumption) (by assumption) | exact way_next (by assumption) (by assumption) | (have hw : WayOn m_ arrivals blocked c_ start x1.1 x2 := (by assumption); have hv := hw.1; have hI : RtI (m_spec_l19Times m_ arrivals blocked c_ start) m_.Junctions x1.2.length x1.1 := (by assumption); have hI1 := hI.1.1; have hI2 := hI.2; first | omega | (simp only [List.length_append, List.length_cons, List.length_nil] at *; omega) | (have hq := way_end hx1 hx2 hx3 hI hv (by assumption); first | exact hq.2 | (have hq1 := hq.1; simp only [List.length_append, List.length_cons, List.length_nil]; rw [Nat.add_comm]; exact hq1))) | (have hI : RtI (m_spec_l19Times m_ arrivals blocked c_ start) m_.Junctions x1.2.length x1.1 := (by assumption); have hI1 := hI.1.1; have hI2 := hI.2; first | omega | (simp only [List.length_append, List.length_cons, List.length_nil] at *; omega) | (have hq := way_end (arr := arrivals) (blocked := blocked) (x := x2) hx1 hx2 hx3 hI (by omega) (by assumption); first | exact hq.2 | (have hq1 := hq.1; simp only [List.length_append, List.length_cons, List.length_nil]; rw [Nat.add_comm]; exact hq1)))))⟩ (by omega) (sub_of [] ⟨rfl, rfl, rfl, rfl, rfl, rfl, rfl, rfl, trivial⟩ ⟨rfl, rfl, rfl, rfl, trivial⟩ rfl) ?_ ?_
            · intro x2 i13
              obtain ⟨e14, e15⟩ := i13
              try dsimp only at *
              refine run_seq ?_
              refine run_region (q_move .n (.t rfl) rfl <|
                  q_assign .n (.t rfl) rfl <|
                  Lex.nil) ?_
              refine run_region (q_move .n (.t rfl) rfl <|
                  q_bslicem ([x2] : List Int) (f := V.int .i64) (l := 207) .n rfl rfl (.cons (.t rfl) .nil) rfl si_28 zv_2 rfl rfl rfl <|
                  q_move .n (.t rfl) rfl <|
                  q_appm (xs := ([x2] : List Int)) (ys := x1.2) (f := V.int .i64) (l := 208) .n rfl (.ow (.t rfl) rfl (take_all (by simp only [len_map, put_len] <;> rfl)) (by simp only [len_map, put_len] <;> rfl)) (.ow (.t rfl) rfl (take_all (by simp only [len_map, put_len] <;> rfl)) (by simp only [len_map, put_len] <;> rfl)) si_28 zv_2 rfl (by ((have hx1 := l19Ask_impM (m := m_) (arr := arrivals) (blocked := blocked) (c := c_) (start := start) (by assumption); have hx2 := l19Ask_impC (m := m_) (arr := arrivals) (blocked := blocked) (c := c_) (start := start) (by assumption); have hx3 := l19Ask_impS (m := m_) (arr := arrivals) (blocked := blocked) (c := c_) (start := start) (by assumption); have hxJ := hx1.1; have hxC := hx2.2; have hxT := rtL (arr := arrivals) (blocked := blocked) hx1 hx2 hx3; first | exact rtE hx1 hx2 hx3 (by assumption) | (have hy := rtS hx1 hx2 hx3 (by assumption) (by assumption); have hz := hy.1.1; first | omega | exact hy | exact Nat.lt_succ_of_le (rank_le _ _ _)) | exact way_start hx1 hx2 hx3 (by assumption) (by assumption) | exact way_next (by assumption) (by assumption) | (have hw : WayOn m_ arrivals blocked c_ start x1.1 x2 := (by assumption); have hv := hw.1; have hI : RtI (m_spec_l19Times m_ arrivals blocked c_ start) m_.Junctions x1.2.length x1.1 := (by assumption); have hI1 := hI.1.1; have hI2 := hI.2; first | omega | (simp only [List.length_append, List.length_cons, List.length_nil] at *; omega) | (have hq := way_end hx1 hx2 hx3 hI hv (by assumption); first | exact hq.2 | (have hq1 := hq.1; simp only [List.length_append, List.length_cons, List.length_nil]; rw [Nat.add_comm]; exact hq1))) | (have hI : RtI (m_spec_l19Times m_ arrivals blocked c_ start) m_.Junctions x1.2.length x1.1 := (by assumption); have hI1 := hI.1.1; have hI2 := hI.2; first | omega | (simp only [List.length_append, List.length_cons, List.length_nil] at *; omega) | (have hq := way_end (arr := arrivals) (blocked := blocked) (x := x2) hx1 hx2 hx3 hI (by omega) (by assumption); first | exact hq.2 | (have hq1 := hq.1; simp only [List.length_append, List.length_cons, List.length_nil]; rw [Nat.add_comm]; exact hq1)))))) rfl rfl <|
                  q_assign .n (.t rfl) rfl <|
                  Lex.nil) ?_
              refine run_endB ?_
              exact run_again (x2, ([x2] : List Int) ++ x1.2) (by ((have hx1 := l19Ask_impM (m := m_) (arr := arrivals) (blocked := blocked) (c := c_) (start := start) (by assumption); have hx2 := l19Ask_impC (m := m_) (arr := arrivals) (blocked := blocked) (c := c_) (start := start) (by assumption); have hx3 := l19Ask_impS (m := m_) (arr := arrivals) (blocked := blocked) (c := c_) (start := start) (by assumption); have hxJ := hx1.1; have hxC := hx2.2; have hxT := rtL (arr := arrivals) (blocked := blocked) hx1 hx2 hx3; first | exact rtE hx1 hx2 hx3 (by assumption) | (have hy := rtS hx1 hx2 hx3 (by assumption) (by assumption); have hz := hy.1.1; first | omega | exact hy | exact Nat.lt_succ_of_le (rank_le _ _ _)) | exact way_start hx1 hx2 hx3 (by assumption) (by assumption) | exact way_next (by assumption) (by assumption) | (have hw : WayOn m_ arrivals blocked c_ start x1.1 x2 := (by assumption); have hv := hw.1; have hI : RtI (m_spec_l19Times m_ arrivals blocked c_ start) m_.Junctions x1.2.length x1.1 := (by assumption); have hI1 := hI.1.1; have hI2 := hI.2; first | omega | (simp only [List.length_append, List.length_cons, List.length_nil] at *; omega) | (have hq := way_end hx1 hx2 hx3 hI hv (by assumption); first | exact hq.2 | (have hq1 := hq.1; simp only [List.length_append, List.length_cons, List.length_nil]; rw [Nat.add_comm]; exact hq1))) | (have hI : RtI (m_spec_l19Times m_ arrivals blocked c_ start) m_.Junctions x1.2.length x1.1 := (by assumption); have hI1 := hI.1.1; have hI2 := hI.2; first | omega | (simp only [List.length_append, List.length_cons, List.length_nil] at *; omega) | (have hq := way_end (arr := arrivals) (blocked := blocked) (x := x2) hx1 hx2 hx3 hI (by omega) (by assumption); first | exact hq.2 | (have hq1 := hq.1; simp only [List.length_append, List.length_cons, List.length_nil]; rw [Nat.add_comm]; exact hq1)))))) (by ((have hx1 := l19Ask_impM (m := m_) (arr := arrivals) (blocked := blocked) (c := c_) (start := start) (by assumption); have hx2 := l19Ask_impC (m := m_) (arr := arrivals) (blocked := blocked) (c := c_) (start := start) (by assumption); have hx3 := l19Ask_impS (m := m_) (arr := arrivals) (blocked := blocked) (c := c_) (start := start) (by assumption); have hxJ := hx1.1; have hxC := hx2.2; have hxT := rtL (arr := arrivals) (blocked := blocked) hx1 hx2 hx3; first | exact rtE hx1 hx2 hx3 (by assumption) | (have hy := rtS hx1 hx2 hx3 (by assumption) (by assumption); have hz := hy.1.1; first | omega | exact hy | exact Nat.lt_succ_of_le (rank_le _ _ _)) | exact way_start hx1 hx2 hx3 (by assumption) (by assumption) | exact way_next (by assumption) (by assumption) | (have hw : WayOn m_ arrivals blocked c_ start x1.1 x2 := (by assumption); have hv := hw.1; have hI : RtI (m_spec_l19Times m_ arrivals blocked c_ start) m_.Junctions x1.2.length x1.1 := (by assumption); have hI1 := hI.1.1; have hI2 := hI.2; first | omega | (simp only [List.length_append, List.length_cons, List.length_nil] at *; omega) | (have hq := way_end hx1 hx2 hx3 hI hv (by assumption); first | exact hq.2 | (have hq1 := hq.1; simp only [List.length_append, List.length_cons, List.length_nil]; rw [Nat.add_comm]; exact hq1))) | (have hI : RtI (m_spec_l19Times m_ arrivals blocked c_ start) m_.Junctions x1.2.length x1.1 := (by assumption); have hI1 := hI.1.1; have hI2 := hI.2; first | omega | (simp only [List.length_append, List.length_cons, List.length_nil] at *; omega) | (have hq := way_end (arr := arrivals) (blocked := blocked) (x := x2) hx1 hx2 hx3 hI (by omega) (by assumption); first | exact hq.2 | (have hq1 := hq.1; simp only [List.length_append, List.length_cons, List.length_nil]; rw [Nat.add_comm]; exact hq1)))))) (sub_of [(206, 208)] ⟨rfl, rfl, rfl, rfl, rfl, rfl, rfl, trivial⟩ ⟨rfl, rfl, rfl, rfl, trivial⟩ rfl)
            · intro rec2 k2 hk10 x2 i11
              obtain ⟨e16, e17⟩ := i11
              try dsimp only at *
              refine run_block ?_
              refine run_seq ?_
              refine run_region (q_move .n (.t rfl) rfl <|
                  q_fld_ow .n (.t rfl) fo_34_2 rfl <|
                  q_ld1_ow .n (.t rfl) rfl (.inr rfl) (fun _ => rfl) rfl ic_2 rfl <|
                  q_move .n (.t rfl) rfl <|
                  q_move .n (.t rfl) rfl <|
                  q_call0 (full := true) .n .f en_43 (.cons (.t rfl) (.cons (.t rfl) (.cons (.t rfl) (.cons (.t rfl) (.cons (.t rfl) .nil))))) (.cons (.b (.ptr rfl rfl (.inr rfl) rfl rfl (.cons (.same rfl) (.cons (.same rfl) .nil)))) (.cons (.b (.a (.same rfl))) (.cons (.b (.a (.same rfl))) (.cons (.b (.a (.same rfl))) (.cons (.b (.a (.same rfl))) .nil))))) (fun hg => c_spec_l19Step m_ blocked c_.Speed x2 x1.1 (by ((have hx1 := l19Ask_impM (m := m_) (arr := arrivals) (blocked := blocked) (c := c_) (start := start) (by assumption); have hx2 := l19Ask_impC (m := m_) (arr := arrivals) (blocked := blocked) (c := c_) (start := start) (by assumption); have hx3 := l19Ask_impS (m := m_) (arr := arrivals) (blocked := blocked) (c := c_) (start := start) (by assumption); have hxJ := hx1.1; have hxC := hx2.2; have hxT := rtL (arr := arrivals) (blocked := blocked) hx1 hx2 hx3; first | exact rtE hx1 hx2 hx3 (by assumption) | (have hy := rtS hx1 hx2 hx3 (by assumption) (by assumption); have hz := hy.1.1; first | omega | exact hy | exact Nat.lt_succ_of_le (rank_le _ _ _)) | exact way_start hx1 hx2 hx3 (by assumption) (by assumption) | exact way_next (by assumption) (by assumption) | (have hw : WayOn m_ arrivals blocked c_ start x1.1 x2 := (by assumption); have hv := hw.1; have hI : RtI (m_spec_l19Times m_ arrivals blocked c_ start) m_.Junctions x1.2.length x1.1 := (by assumption); have hI1 := hI.1.1; have hI2 := hI.2; first | omega | (simp only [List.length_append, List.length_cons, List.length_nil] at *; omega) | (have hq := way_end hx1 hx2 hx3 hI hv (by assumption); first | exact hq.2 | (have hq1 := hq.1; simp only [List.length_append, List.length_cons, List.length_nil]; rw [Nat.add_comm]; exact hq1))) | (have hI : RtI (m_spec_l19Times m_ arrivals blocked c_ start) m_.Junctions x1.2.length x1.1 := (by assumption); have hI1 := hI.1.1; have hI2 := hI.2; first | omega | (simp only [List.length_append, List.length_cons, List.length_nil] at *; omega) | (have hq := way_end (arr := arrivals) (blocked := blocked) (x := x2) hx1 hx2 hx3 hI (by omega) (by assumption); first | exact hq.2 | (have hq1 := hq.1; simp only [List.length_append, List.length_cons, List.length_nil]; rw [Nat.add_comm]; exact hq1))))))) rfl (fun _ => rfl) rfl <|
                  q_assign .n (.t rfl) rfl <|
                  Lex.nil) ?_
              refine run_seq ?_
              refine run_seq ?_
              refine run_draw fmo (q_move .n (.t rfl) rfl <|
                  q_int .n (.t rfl) (.c rfl) rfl rfl <|
                  q_move .n (.t rfl) rfl <|
                  q_move (.t rfl rfl) (.t rfl) rfl <|
                  q_move (.t rfl rfl) (.t rfl) rfl <|
                  q_idx_ow (.t rfl rfl) (.u rfl id) (.u rfl id) sl_28 (fun hg => by simp only [Bool.and_eq_true, Bool.or_eq_true, Bool.not_eq_true', Bool.and_eq_false_iff, Bool.or_eq_false_iff, Bool.not_eq_false', decide_eq_true_eq, decide_eq_false_iff_not, beq_iff_eq, bne_iff_ne, beq_eq_false_iff_ne, bne_eq_false_iff_eq, Bool.true_and, ne_eq, Decidable.not_not, Int.not_lt, Int.not_le, Nat.not_lt, Nat.not_le, strB_nil, strB_nil', strB_nnil, strB_nnil'] at hg; ((have hx1 := l19Ask_impM (m := m_) (arr := arrivals) (blocked := blocked) (c := c_) (start := start) (by assumption); have hx2 := l19Ask_impC (m := m_) (arr := arrivals) (blocked := blocked) (c := c_) (start := start) (by assumption); have hx3 := l19Ask_impS (m := m_) (arr := arrivals) (blocked := blocked) (c := c_) (start := start) (by assumption); have hxJ := hx1.1; have hxC := hx2.2; have hxT := rtL (arr := arrivals) (blocked := blocked) hx1 hx2 hx3; first | exact rtE hx1 hx2 hx3 (by assumption) | (have hy := rtS hx1 hx2 hx3 (by assumption) (by assumption); have hz := hy.1.1; first | omega | exact hy | exact Nat.lt_succ_of_le (rank_le _ _ _)) | exact way_start hx1 hx2 hx3 (by assumption) (by assumption) | exact way_next (by assumption) (by assumption) | (have hw : WayOn m_ arrivals blocked c_ start x1.1 x2 := (by assumption); have hv := hw.1; have hI : RtI (m_spec_l19Times m_ arrivals blocked c_ start) m_.Junctions x1.2.length x1.1 := (by assumption); have hI1 := hI.1.1; have hI2 := hI.2; first | omega | (simp only [List.length_append, List.length_cons, List.length_nil] at *; omega) | (have hq := way_end hx1 hx2 hx3 hI hv (by assumption); first | exact hq.2 | (have hq1 := hq.1; simp only [List.length_append, List.length_cons, List.length_nil]; rw [Nat.add_comm]; exact hq1))) | (have hI : RtI (m_spec_l19Times m_ arrivals blocked c_ start) m_.Junctions x1.2.length x1.1 := (by assumption); have hI1 := hI.1.1; have hI2 := hI.2; first | omega | (simp only [List.length_append, List.length_cons, List.length_nil] at *; omega) | (have hq := way_end (arr := arrivals) (blocked := blocked) (x := x2) hx1 hx2 hx3 hI (by omega) (by assumption); first | exact hq.2 | (have hq1 := hq.1; simp only [List.length_append, List.length_cons, List.length_nil]; rw [Nat.add_comm]; exact hq1)))))) rfl <|
                  q_ld1_row (.t rfl rfl) (.u rfl id) rfl (fun hg => by simp only [Bool.and_eq_true, Bool.or_eq_true, Bool.not_eq_true', Bool.and_eq_false_iff, Bool.or_eq_false_iff, Bool.not_eq_false', decide_eq_true_eq, decide_eq_false_iff_not, beq_iff_eq, bne_iff_ne, beq_eq_false_iff_ne, bne_eq_false_iff_eq, Bool.true_and, ne_eq, Decidable.not_not, Int.not_lt, Int.not_le, Nat.not_lt, Nat.not_le, strB_nil, strB_nil', strB_nnil, strB_nnil'] at hg; ((have hx1 := l19Ask_impM (m := m_) (arr := arrivals) (blocked := blocked) (c := c_) (start := start) (by assumption); have hx2 := l19Ask_impC (m := m_) (arr := arrivals) (blocked := blocked) (c := c_) (start := start) (by assumption); have hx3 := l19Ask_impS (m := m_) (arr := arrivals) (blocked := blocked) (c := c_) (start := start) (by assumption); have hxJ := hx1.1; have hxC := hx2.2; have hxT := rtL (arr := arrivals) (blocked := blocked) hx1 hx2 hx3; first | exact rtE hx1 hx2 hx3 (by assumption) | (have hy := rtS hx1 hx2 hx3 (by assumption) (by assumption); have hz := hy.1.1; first | omega | exact hy | exact Nat.lt_succ_of_le (rank_le _ _ _)) | exact way_start hx1 hx2 hx3 (by assumption) (by assumption) | exact way_next (by assumption) (by assumption) | (have hw : WayOn m_ arrivals blocked c_ start x1.1 x2 := (by assumption); have hv := hw.1; have hI : RtI (m_spec_l19Times m_ arrivals blocked c_ start) m_.Junctions x1.2.length x1.1 := (by assumption); have hI1 := hI.1.1; have hI2 := hI.2; first | omega | (simp only [List.length_append, List.length_cons, List.length_nil] at *; omega) | (have hq := way_end hx1 hx2 hx3 hI hv (by assumption); first | exact hq.2 | (have hq1 := hq.1; simp only [List.length_append, List.length_cons, List.length_nil]; rw [Nat.add_comm]; exact hq1))) | (have hI : RtI (m_spec_l19Times m_ arrivals blocked c_ start) m_.Junctions x1.2.length x1.1 := (by assumption); have hI1 := hI.1.1; have hI2 := hI.2; first | omega | (simp only [List.length_append, List.length_cons, List.length_nil] at *; omega) | (have hq := way_end (arr := arrivals) (blocked := blocked) (x := x2) hx1 hx2 hx3 hI (by omega) (by assumption); first | exact hq.2 | (have hq1 := hq.1; simp only [List.length_append, List.length_cons, List.length_nil]; rw [Nat.add_comm]; exact hq1)))))) rfl rfl rfl ic_2 rfl <|
                  q_int (.t rfl rfl) (.u rfl id) (.c rfl) rfl rfl <|
                  q_and .n (.t rfl) (.u rfl id) rfl <|
                  q_move .n (.t rfl) rfl <|
                  q_move (.t rfl rfl) (.t rfl) rfl <|
                  q_move (.t rfl rfl) (.t rfl) rfl <|
                  q_idx_ow (.t rfl rfl) (.u rfl id) (.u rfl id) sl_28 (fun hg => by simp only [Bool.and_eq_true, Bool.or_eq_true, Bool.not_eq_true', Bool.and_eq_false_iff, Bool.or_eq_false_iff, Bool.not_eq_false', decide_eq_true_eq, decide_eq_false_iff_not, beq_iff_eq, bne_iff_ne, beq_eq_false_iff_ne, bne_eq_false_iff_eq, Bool.true_and, ne_eq, Decidable.not_not, Int.not_lt, Int.not_le, Nat.not_lt, Nat.not_le, strB_nil, strB_nil', strB_nnil, strB_nnil'] at hg; ((have hx1 := l19Ask_impM (m := m_) (arr := arrivals) (blocked := blocked) (c := c_) (start := start) (by assumption); have hx2 := l19Ask_impC (m := m_) (arr := arrivals) (blocked := blocked) (c := c_) (start := start) (by assumption); have hx3 := l19Ask_impS (m := m_) (arr := arrivals) (blocked := blocked) (c := c_) (start := start) (by assumption); have hxJ := hx1.1; have hxC := hx2.2; have hxT := rtL (arr := arrivals) (blocked := blocked) hx1 hx2 hx3; first | exact rtE hx1 hx2 hx3 (by assumption) | (have hy := rtS hx1 hx2 hx3 (by assumption) (by assumption); have hz := hy.1.1; first | omega | exact hy | exact Nat.lt_succ_of_le (rank_le _ _ _)) | exact way_start hx1 hx2 hx3 (by assumption) (by assumption) | exact way_next (by assumption) (by assumption) | (have hw : WayOn m_ arrivals blocked c_ start x1.1 x2 := (by assumption); have hv := hw.1; have hI : RtI (m_spec_l19Times m_ arrivals blocked c_ start) m_.Junctions x1.2.length x1.1 := (by assumption); have hI1 := hI.1.1; have hI2 := hI.2; first | omega | (simp only [List.length_append, List.length_cons, List.length_nil] at *; omega) | (have hq := way_end hx1 hx2 hx3 hI hv (by assumption); first | exact hq.2 | (have hq1 := hq.1; simp only [List.length_append, List.length_cons, List.length_nil]; rw [Nat.add_comm]; exact hq1))) | (have hI : RtI (m_spec_l19Times m_ arrivals blocked c_ start) m_.Junctions x1.2.length x1.1 := (by assumption); have hI1 := hI.1.1; have hI2 := hI.2; first | omega | (simp only [List.length_append, List.length_cons, List.length_nil] at *; omega) | (have hq := way_end (arr := arrivals) (blocked := blocked) (x := x2) hx1 hx2 hx3 hI (by omega) (by assumption); first | exact hq.2 | (have hq1 := hq.1; simp only [List.length_append, List.length_cons, List.length_nil]; rw [Nat.add_comm]; exact hq1)))))) rfl <|
                  q_ld1_row (.t rfl rfl) (.u rfl id) rfl (fun hg => by simp only [Bool.and_eq_true, Bool.or_eq_true, Bool.not_eq_true', Bool.and_eq_false_iff, Bool.or_eq_false_iff, Bool.not_eq_false', decide_eq_true_eq, decide_eq_false_iff_not, beq_iff_eq, bne_iff_ne, beq_eq_false_iff_ne, bne_eq_false_iff_eq, Bool.true_and, ne_eq, Decidable.not_not, Int.not_lt, Int.not_le, Nat.not_lt, Nat.not_le, strB_nil, strB_nil', strB_nnil, strB_nnil'] at hg; ((have hx1 := l19Ask_impM (m := m_) (arr := arrivals) (blocked := blocked) (c := c_) (start := start) (by assumption); have hx2 := l19Ask_impC (m := m_) (arr := arrivals) (blocked := blocked) (c := c_) (start := start) (by assumption); have hx3 := l19Ask_impS (m := m_) (arr := arrivals) (blocked := blocked) (c := c_) (start := start) (by assumption); have hxJ := hx1.1; have hxC := hx2.2; have hxT := rtL (arr := arrivals) (blocked := blocked) hx1 hx2 hx3; first | exact rtE hx1 hx2 hx3 (by assumption) | (have hy := rtS hx1 hx2 hx3 (by assumption) (by assumption); have hz := hy.1.1; first | omega | exact hy | exact Nat.lt_succ_of_le (rank_le _ _ _)) | exact way_start hx1 hx2 hx3 (by assumption) (by assumption) | exact way_next (by assumption) (by assumption) | (have hw : WayOn m_ arrivals blocked c_ start x1.1 x2 := (by assumption); have hv := hw.1; have hI : RtI (m_spec_l19Times m_ arrivals blocked c_ start) m_.Junctions x1.2.length x1.1 := (by assumption); have hI1 := hI.1.1; have hI2 := hI.2; first | omega | (simp only [List.length_append, List.length_cons, List.length_nil] at *; omega) | (have hq := way_end hx1 hx2 hx3 hI hv (by assumption); first | exact hq.2 | (have hq1 := hq.1; simp only [List.length_append, List.length_cons, List.length_nil]; rw [Nat.add_comm]; exact hq1))) | (have hI : RtI (m_spec_l19Times m_ arrivals blocked c_ start) m_.Junctions x1.2.length x1.1 := (by assumption); have hI1 := hI.1.1; have hI2 := hI.2; first | omega | (simp only [List.length_append, List.length_cons, List.length_nil] at *; omega) | (have hq := way_end (arr := arrivals) (blocked := blocked) (x := x2) hx1 hx2 hx3 hI (by omega) (by assumption); first | exact hq.2 | (have hq1 := hq.1; simp only [List.length_append, List.length_cons, List.length_nil]; rw [Nat.add_comm]; exact hq1)))))) rfl rfl rfl ic_2 rfl <|
                  q_move (.t rfl rfl) (.t rfl) rfl <|
                  q_int (.t rfl rfl) (.u rfl id) (.u rfl id) rfl rfl <|
                  q_move (.t rfl rfl) (.t rfl) rfl <|
                  q_move (.t rfl rfl) (.t rfl) rfl <|
                  q_idx_ow (.t rfl rfl) (.u rfl id) (.u rfl id) sl_28 (fun hg => by simp only [Bool.and_eq_true, Bool.or_eq_true, Bool.not_eq_true', Bool.and_eq_false_iff, Bool.or_eq_false_iff, Bool.not_eq_false', decide_eq_true_eq, decide_eq_false_iff_not, beq_iff_eq, bne_iff_ne, beq_eq_false_iff_ne, bne_eq_false_iff_eq, Bool.true_and, ne_eq, Decidable.not_not, Int.not_lt, Int.not_le, Nat.not_lt, Nat.not_le, strB_nil, strB_nil', strB_nnil, strB_nnil'] at hg; ((have hx1 := l19Ask_impM (m := m_) (arr := arrivals) (blocked := blocked) (c := c_) (start := start) (by assumption); have hx2 := l19Ask_impC (m := m_) (arr := arrivals) (blocked := blocked) (c := c_) (start := start) (by assumption); have hx3 := l19Ask_impS (m := m_) (arr := arrivals) (blocked := blocked) (c := c_) (start := start) (by assumption); have hxJ := hx1.1; have hxC := hx2.2; have hxT := rtL (arr := arrivals) (blocked := blocked) hx1 hx2 hx3; first | exact rtE hx1 hx2 hx3 (by assumption) | (have hy := rtS hx1 hx2 hx3 (by assumption) (by assumption); have hz := hy.1.1; first | omega | exact hy | exact Nat.lt_succ_of_le (rank_le _ _ _)) | exact way_start hx1 hx2 hx3 (by assumption) (by assumption) | exact way_next (by assumption) (by assumption) | (have hw : WayOn m_ arrivals blocked c_ start x1.1 x2 := (by assumption); have hv := hw.1; have hI : RtI (m_spec_l19Times m_ arrivals blocked c_ start) m_.Junctions x1.2.length x1.1 := (by assumption); have hI1 := hI.1.1; have hI2 := hI.2; first | omega | (simp only [List.length_append, List.length_cons, List.length_nil] at *; omega) | (have hq := way_end hx1 hx2 hx3 hI hv (by assumption); first | exact hq.2 | (have hq1 := hq.1; simp only [List.length_append, List.length_cons, List.length_nil]; rw [Nat.add_comm]; exact hq1))) | (have hI : RtI (m_spec_l19Times m_ arrivals blocked c_ start) m_.Junctions x1.2.length x1.1 := (by assumption); have hI1 := hI.1.1; have hI2 := hI.2; first | omega | (simp only [List.length_append, List.length_cons, List.length_nil] at *; omega) | (have hq := way_end (arr := arrivals) (blocked := blocked) (x := x2) hx1 hx2 hx3 hI (by omega) (by assumption); first | exact hq.2 | (have hq1 := hq.1; simp only [List.length_append, List.length_cons, List.length_nil]; rw [Nat.add_comm]; exact hq1)))))) rfl <|
                  q_ld1_row (.t rfl rfl) (.u rfl id) rfl (fun hg => by simp only [Bool.and_eq_true, Bool.or_eq_true, Bool.not_eq_true', Bool.and_eq_false_iff, Bool.or_eq_false_iff, Bool.not_eq_false', decide_eq_true_eq, decide_eq_false_iff_not, beq_iff_eq, bne_iff_ne, beq_eq_false_iff_ne, bne_eq_false_iff_eq, Bool.true_and, ne_eq, Decidable.not_not, Int.not_lt, Int.not_le, Nat.not_lt, Nat.not_le, strB_nil, strB_nil', strB_nnil, strB_nnil'] at hg; ((have hx1 := l19Ask_impM (m := m_) (arr := arrivals) (blocked := blocked) (c := c_) (start := start) (by assumption); have hx2 := l19Ask_impC (m := m_) (arr := arrivals) (blocked := blocked) (c := c_) (start := start) (by assumption); have hx3 := l19Ask_impS (m := m_) (arr := arrivals) (blocked := blocked) (c := c_) (start := start) (by assumption); have hxJ := hx1.1; have hxC := hx2.2; have hxT := rtL (arr := arrivals) (blocked := blocked) hx1 hx2 hx3; first | exact rtE hx1 hx2 hx3 (by assumption) | (have hy := rtS hx1 hx2 hx3 (by assumption) (by assumption); have hz := hy.1.1; first | omega | exact hy | exact Nat.lt_succ_of_le (rank_le _ _ _)) | exact way_start hx1 hx2 hx3 (by assumption) (by assumption) | exact way_next (by assumption) (by assumption) | (have hw : WayOn m_ arrivals blocked c_ start x1.1 x2 := (by assumption); have hv := hw.1; have hI : RtI (m_spec_l19Times m_ arrivals blocked c_ start) m_.Junctions x1.2.length x1.1 := (by assumption); have hI1 := hI.1.1; have hI2 := hI.2; first | omega | (simp only [List.length_append, List.length_cons, List.length_nil] at *; omega) | (have hq := way_end hx1 hx2 hx3 hI hv (by assumption); first | exact hq.2 | (have hq1 := hq.1; simp only [List.length_append, List.length_cons, List.length_nil]; rw [Nat.add_comm]; exact hq1))) | (have hI : RtI (m_spec_l19Times m_ arrivals blocked c_ start) m_.Junctions x1.2.length x1.1 := (by assumption); have hI1 := hI.1.1; have hI2 := hI.2; first | omega | (simp only [List.length_append, List.length_cons, List.length_nil] at *; omega) | (have hq := way_end (arr := arrivals) (blocked := blocked) (x := x2) hx1 hx2 hx3 hI (by omega) (by assumption); first | exact hq.2 | (have hq1 := hq.1; simp only [List.length_append, List.length_cons, List.length_nil]; rw [Nat.add_comm]; exact hq1)))))) rfl rfl rfl ic_2 rfl <|
                  q_int (.t rfl rfl) (.u rfl id) (.u rfl id) rfl rfl <|
                  q_and .n (.t rfl) (.u rfl id) rfl <|
                  Lex.nil) (by kernel_rfl) ?_
              refine run_cond (.t rfl) rfl (fun h12 => ?_) (fun h12 => ?_)
              · try simp only [Bool.and_eq_true, Bool.or_eq_true, Bool.not_eq_true', Bool.and_eq_false_iff, Bool.or_eq_false_iff, Bool.not_eq_false', decide_eq_true_eq, decide_eq_false_iff_not, beq_iff_eq, bne_iff_ne, beq_eq_false_iff_ne, bne_eq_false_iff_eq, Bool.true_and, ne_eq, Decidable.not_not, Int.not_lt, Int.not_le, Nat.not_lt, Nat.not_le, strB_nil, strB_nil', strB_nnil, strB_nnil'] at h12
                refine run_exit rfl ?_
                exact run_cont hk10 x2 ⟨by ((have hx1 := l19Ask_impM (m := m_) (arr := arrivals) (blocked := blocked) (c := c_) (start := start) (by assumption); have hx2 := l19Ask_impC (m := m_) (arr := arrivals) (blocked := blocked) (c := c_) (start := start) (by assumption); have hx3 := l19Ask_impS (m := m_) (arr := arrivals) (blocked := blocked) (c := c_) (start := start) (by assumption); have hxJ := hx1.1; have hxC := hx2.2; have hxT := rtL (arr := arrivals) (blocked := blocked) hx1 hx2 hx3; first | exact rtE hx1 hx2 hx3 (by assumption) | (have hy := rtS hx1 hx2 hx3 (by assumption) (by assumption); have hz := hy.1.1; first | omega | exact hy | exact Nat.lt_succ_of_le (rank_le _ _ _)) | exact way_start hx1 hx2 hx3 (by assumption) (by assumption) | exact way_next (by assumption) (by assumption) | (have hw : WayOn m_ arrivals blocked c_ start x1.1 x2 := (by assumption); have hv := hw.1; have hI : RtI (m_spec_l19Times m_ arrivals blocked c_ start) m_.Junctions x1.2.length x1.1 := (by assumption); have hI1 := hI.1.1; have hI2 := hI.2; first | omega | (simp only [List.length_append, List.length_cons, List.length_nil] at *; omega) | (have hq := way_end hx1 hx2 hx3 hI hv (by assumption); first | exact hq.2 | (have hq1 := hq.1; simp only [List.length_append, List.length_cons, List.length_nil]; rw [Nat.add_comm]; exact hq1))) | (have hI : RtI (m_spec_l19Times m_ arrivals blocked c_ start) m_.Junctions x1.2.length x1.1 := (by assumption); have hI1 := hI.1.1; have hI2 := hI.2; first | omega | (simp only [List.length_append, List.length_cons, List.length_nil] at *; omega) | (have hq := way_end (arr := arrivals) (blocked := blocked) (x := x2) hx1 hx2 hx3 hI (by omega) (by assumption); first | exact hq.2 | (have hq1 := hq.1; simp only [List.length_append, List.length_cons, List.length_nil]; rw [Nat.add_comm]; exact hq1))))), by omega⟩ (sub_of [] ⟨rfl, rfl, rfl, rfl, rfl, rfl, rfl, trivial⟩ ⟨rfl, rfl, rfl, rfl, trivial⟩ rfl)
              · try simp only [Bool.and_eq_true, Bool.or_eq_true, Bool.not_eq_true', Bool.and_eq_false_iff, Bool.or_eq_false_iff, Bool.not_eq_false', decide_eq_true_eq, decide_eq_false_iff_not, beq_iff_eq, bne_iff_ne, beq_eq_false_iff_ne, bne_eq_false_iff_eq, Bool.true_and, ne_eq, Decidable.not_not, Int.not_lt, Int.not_le, Nat.not_lt, Nat.not_le, strB_nil, strB_nil', strB_nnil, strB_nnil'] at h12
                refine run_skip ?_
                refine run_region (q_move .n (.t rfl) rfl <|
                    q_add .n (.t rfl) (.c rfl) (fun _ => by ((have hx1 := l19Ask_impM (m := m_) (arr := arrivals) (blocked := blocked) (c := c_) (start := start) (by assumption); have hx2 := l19Ask_impC (m := m_) (arr := arrivals) (blocked := blocked) (c := c_) (start := start) (by assumption); have hx3 := l19Ask_impS (m := m_) (arr := arrivals) (blocked := blocked) (c := c_) (start := start) (by assumption); have hxJ := hx1.1; have hxC := hx2.2; have hxT := rtL (arr := arrivals) (blocked := blocked) hx1 hx2 hx3; first | exact rtE hx1 hx2 hx3 (by assumption) | (have hy := rtS hx1 hx2 hx3 (by assumption) (by assumption); have hz := hy.1.1; first | omega | exact hy | exact Nat.lt_succ_of_le (rank_le _ _ _)) | exact way_start hx1 hx2 hx3 (by assumption) (by assumption) | exact way_next (by assumption) (by assumption) | (have hw : WayOn m_ arrivals blocked c_ start x1.1 x2 := (by assumption); have hv := hw.1; have hI : RtI (m_spec_l19Times m_ arrivals blocked c_ start) m_.Junctions x1.2.length x1.1 := (by assumption); have hI1 := hI.1.1; have hI2 := hI.2; first | omega | (simp only [List.length_append, List.length_cons, List.length_nil] at *; omega) | (have hq := way_end hx1 hx2 hx3 hI hv (by assumption); first | exact hq.2 | (have hq1 := hq.1; simp only [List.length_append, List.length_cons, List.length_nil]; rw [Nat.add_comm]; exact hq1))) | (have hI : RtI (m_spec_l19Times m_ arrivals blocked c_ start) m_.Junctions x1.2.length x1.1 := (by assumption); have hI1 := hI.1.1; have hI2 := hI.2; first | omega | (simp only [List.length_append, List.length_cons, List.length_nil] at *; omega) | (have hq := way_end (arr := arrivals) (blocked := blocked) (x := x2) hx1 hx2 hx3 hI (by omega) (by assumption); first | exact hq.2 | (have hq1 := hq.1; simp only [List.length_append, List.length_cons, List.length_nil]; rw [Nat.add_comm]; exact hq1)))))) rfl <|
                    q_assign .n (.t rfl) rfl <|
                    Lex.nil) ?_
                refine run_endB ?_
                exact run_again (x2 + 1) ⟨by omega, by ((have hx1 := l19Ask_impM (m := m_) (arr := arrivals) (blocked := blocked) (c := c_) (start := start) (by assumption); have hx2 := l19Ask_impC (m := m_) (arr := arrivals) (blocked := blocked) (c := c_) (start := start) (by assumption); have hx3 := l19Ask_impS (m := m_) (arr := arrivals) (blocked := blocked) (c := c_) (start := start) (by assumption); have hxJ := hx1.1; have hxC := hx2.2; have hxT := rtL (arr := arrivals) (blocked := blocked) hx1 hx2 hx3; first | exact rtE hx1 hx2 hx3 (by assumption) | (have hy := rtS hx1 hx2 hx3 (by assumption) (by assumption); have hz := hy.1.1; first | omega | exact hy | exact Nat.lt_succ_of_le (rank_le _ _ _)) | exact way_start hx1 hx2 hx3 (by assumption) (by assumption) | exact way_next (by assumption) (by assumption) | (have hw : WayOn m_ arrivals blocked c_ start x1.1 x2 := (by assumption); have hv := hw.1; have hI : RtI (m_spec_l19Times m_ arrivals blocked c_ start) m_.Junctions x1.2.length x1.1 := (by assumption); have hI1 := hI.1.1; have hI2 := hI.2; first | omega | (simp only [List.length_append, List.length_cons, List.length_nil] at *; omega) | (have hq := way_end hx1 hx2 hx3 hI hv (by assumption); first | exact hq.2 | (have hq1 := hq.1; simp only [List.length_append, List.length_cons, List.length_nil]; rw [Nat.add_comm]; exact hq1))) | (have hI : RtI (m_spec_l19Times m_ arrivals blocked c_ start) m_.Junctions x1.2.length x1.1 := (by assumption); have hI1 := hI.1.1; have hI2 := hI.2; first | omega | (simp only [List.length_append, List.length_cons, List.length_nil] at *; omega) | (have hq := way_end (arr := arrivals) (blocked := blocked) (x := x2) hx1 hx2 hx3 hI (by omega) (by assumption); first | exact hq.2 | (have hq1 := hq.1; simp only [List.length_append, List.length_cons, List.length_nil]; rw [Nat.add_comm]; exact hq1)))))⟩ (by ((have hx1 := l19Ask_impM (m := m_) (arr := arrivals) (blocked := blocked) (c := c_) (start := start) (by assumption); have hx2 := l19Ask_impC (m := m_) (arr := arrivals) (blocked := blocked) (c := c_) (start := start) (by assumption); have hx3 := l19Ask_impS (m := m_) (arr := arrivals) (blocked := blocked) (c := c_) (start := start) (by assumption); have hxJ := hx1.1; have hxC := hx2.2; have hxT := rtL (arr := arrivals) (blocked := blocked) hx1 hx2 hx3; first | exact rtE hx1 hx2 hx3 (by assumption) | (have hy := rtS hx1 hx2 hx3 (by assumption) (by assumption); have hz := hy.1.1; first | omega | exact hy | exact Nat.lt_succ_of_le (rank_le _ _ _)) | exact way_start hx1 hx2 hx3 (by assumption) (by assumption) | exact way_next (by assumption) (by assumption) | (have hw : WayOn m_ arrivals blocked c_ start x1.1 x2 := (by assumption); have hv := hw.1; have hI : RtI (m_spec_l19Times m_ arrivals blocked c_ start) m_.Junctions x1.2.length x1.1 := (by assumption); have hI1 := hI.1.1; have hI2 := hI.2; first | omega | (simp only [List.length_append, List.length_cons, List.length_nil] at *; omega) | (have hq := way_end hx1 hx2 hx3 hI hv (by assumption); first | exact hq.2 | (have hq1 := hq.1; simp only [List.length_append, List.length_cons, List.length_nil]; rw [Nat.add_comm]; exact hq1))) | (have hI : RtI (m_spec_l19Times m_ arrivals blocked c_ start) m_.Junctions x1.2.length x1.1 := (by assumption); have hI1 := hI.1.1; have hI2 := hI.2; first | omega | (simp only [List.length_append, List.length_cons, List.length_nil] at *; omega) | (have hq := way_end (arr := arrivals) (blocked := blocked) (x := x2) hx1 hx2 hx3 hI (by omega) (by assumption); first | exact hq.2 | (have hq1 := hq.1; simp only [List.length_append, List.length_cons, List.length_nil]; rw [Nat.add_comm]; exact hq1)))))) (sub_of [] ⟨rfl, rfl, rfl, rfl, rfl, rfl, rfl, rfl, trivial⟩ ⟨rfl, rfl, rfl, rfl, trivial⟩ rfl)
          · try simp only [Bool.and_eq_true, Bool.or_eq_true, Bool.not_eq_true', Bool.and_eq_false_iff, Bool.or_eq_false_iff, Bool.not_eq_false', decide_eq_true_eq, decide_eq_false_iff_not, beq_iff_eq, bne_iff_ne, beq_eq_false_iff_ne, bne_eq_false_iff_eq, Bool.true_and, ne_eq, Decidable.not_not, Int.not_lt, Int.not_le, Nat.not_lt, Nat.not_le, strB_nil, strB_nil', strB_nnil, strB_nnil'] at h9
            refine run_exit rfl ?_
            exact run_cont hk7 (x1.1, x1.2) (by omega) (sub_of [] ⟨rfl, rfl, trivial⟩ ⟨rfl, trivial⟩ rfl)


end Go.Proofs.Ytlbpjgeoaiiamaa
