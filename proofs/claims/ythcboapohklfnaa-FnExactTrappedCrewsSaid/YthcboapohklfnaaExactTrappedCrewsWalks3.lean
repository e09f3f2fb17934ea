/-
  THE WALKS: each Go function computes its model. Conditions: as each theorem states them (hp1, hp2 ..).
-/
import Derived.Test.YthcboapohklfnaaExactTrappedCrewsWalks2
set_option linter.unusedVariables false
set_option linter.unusedSimpArgs false
set_option linter.unusedSectionVars false
set_option linter.unnecessarySimpa false
namespace Go.Proofs.Ythcboapohklfnaa
open Go Go.RowKit Go.Proofs Go.Proofs.Ythcboapohklfnaa.E
/-! ### slices_Repeat_int64 -/
theorem c_slices_Repeat_int64 (x_ : List Int) (count : Int) (hp1 : x_.length = 1) (hp2 : 1 ≤ count ∧ count ≤ 16) : Con Try.prog 83 [.sl 1 (x_.map (V.int .i64)), .int .i64 count] [] (.os 100 (m_slices_Repeat_int64 x_ count).length) ([(100, some (.row 2 1 ((m_slices_Repeat_int64 x_ count).map (V.int .i64))))]) := by
  refine con_intro (out := fun r : (List Int) => ((.os 100 r.length : V), ([(100, some (.row 2 1 (r.map (V.int .i64))))] : List (Nat × Option O)))) (r := (m_slices_Repeat_int64 x_ count)) Try.func83 rfl Try.ntmps83 rfl ?_
  have hM := mul_rep (n := (x_.length : Int)) (c := count) (by omega) hp2
  have hW := wr64 (n := count) (by omega)
  refine run_fact (t := 0) rfl fun hl => ?_
  have l1 := hl; clear hl; simp only [List.length_map] at l1
  refine run_seq ?_
  refine run_region (q_assign .n (.c rfl) rfl <|
      Lex.nil) ?_
  refine run_seq ?_
  refine run_seq ?_
  refine run_region (q_move .n (.t rfl) rfl <|
      q_int .n (.t rfl) (.c rfl) rfl rfl <|
      Lex.nil) ?_
  refine run_if (.t rfl) (fun h2 => ?_) (fun h2 => ?_)
  · try simp only [Bool.and_eq_true, Bool.or_eq_true, Bool.not_eq_true', Bool.and_eq_false_iff, Bool.or_eq_false_iff, Bool.not_eq_false', decide_eq_true_eq, decide_eq_false_iff_not, beq_iff_eq, bne_iff_ne, beq_eq_false_iff_ne, bne_eq_false_iff_eq, Bool.true_and, ne_eq, Decidable.not_not, Int.not_lt, Int.not_le, Nat.not_lt, Nat.not_le, strB_nil, strB_nil', strB_nnil, strB_nnil'] at h2
    exfalso; first | omega | assumption | (simp only [List.length_append, List.length_cons, List.length_nil, List.length_replicate, put_len] at * <;> omega) | ((have hq := rep_step (by assumption) (by assumption) hp2.2 (by assumption); dsimp only at hq ⊢; omega)) | ((rw [cpy_len (by simp only [List.length_take] at *; omega)]; done)) | ((dsimp only; rw [cpy_len (by simp only [List.length_take, List.length_replicate, hM, hW] at *; omega)]; simp only [List.length_replicate, hM, hW]; omega)) | ((have hp := pre_len (xs := x1.1) (b := x1.2) (by omega); rw [cpy_len (by rw [List.length_take]; omega)]; done)) | ((simp only [hM, hW, List.length_replicate] at *; omega)) | ((rw [cpy_len (by simp only [List.length_take, List.length_replicate, hM, hW] at *; omega)]))
  · try simp only [Bool.and_eq_true, Bool.or_eq_true, Bool.not_eq_true', Bool.and_eq_false_iff, Bool.or_eq_false_iff, Bool.not_eq_false', decide_eq_true_eq, decide_eq_false_iff_not, beq_iff_eq, bne_iff_ne, beq_eq_false_iff_ne, bne_eq_false_iff_eq, Bool.true_and, ne_eq, Decidable.not_not, Int.not_lt, Int.not_le, Nat.not_lt, Nat.not_le, strB_nil, strB_nil', strB_nnil, strB_nnil'] at h2
    refine run_skip ?_
    refine run_seq ?_
    refine run_region (q_move .n (.t rfl) rfl <|
        q_len .n (.t rfl) rfl len_map ss_25 rfl <|
        q_conv .n (.t rfl) cv_3_146 rfl <|
        q_move .n (.t rfl) rfl <|
        q_conv .n (.t rfl) cv_3_146 rfl <|
        q_call0 (full := false) .n .f en_104 (.cons (.t rfl) (.cons (.t rfl) .nil)) (.cons (.b (.a (.same rfl))) (.cons (.b (.a (.same rfl))) .nil)) (fun hg => c_math_bits_Mul (IntKind.wrap .u64 (x_.length : Int)) (IntKind.wrap .u64 count)) rfl (fun h => Bool.noConfusion h) rfl <|
        q_move .n (.t rfl) rfl <|
        q_ext .n (.t rfl) rfl rfl rfl <|
        q_ext .n (.t rfl) rfl rfl rfl <|
        q_assign .n (.t rfl) rfl <|
        q_assign .n (.t rfl) rfl <|
        Lex.nil) ?_
    refine run_seq ?_
    refine run_seq ?_
    refine run_region (q_move .n (.t rfl) rfl <|
        q_int .n (.t rfl) (.c rfl) rfl rfl <|
        q_move .n (.t rfl) rfl <|
        q_move (.f rfl rfl) (.t rfl) rfl <|
        q_int (.f rfl rfl) (.u rfl id) (.c rfl) rfl rfl <|
        q_or .n (.t rfl) (.u rfl id) rfl <|
        Lex.nil) ?_
    refine run_if (.t rfl) (fun h3 => ?_) (fun h3 => ?_)
    · try simp only [Bool.and_eq_true, Bool.or_eq_true, Bool.not_eq_true', Bool.and_eq_false_iff, Bool.or_eq_false_iff, Bool.not_eq_false', decide_eq_true_eq, decide_eq_false_iff_not, beq_iff_eq, bne_iff_ne, beq_eq_false_iff_ne, bne_eq_false_iff_eq, Bool.true_and, ne_eq, Decidable.not_not, Int.not_lt, Int.not_le, Nat.not_lt, Nat.not_le, strB_nil, strB_nil', strB_nnil, strB_nnil'] at h3
      exfalso; first | omega | assumption | (simp only [List.length_append, List.length_cons, List.length_nil, List.length_replicate, put_len] at * <;> omega) | ((have hq := rep_step (by assumption) (by assumption) hp2.2 (by assumption); dsimp only at hq ⊢; omega)) | ((rw [cpy_len (by simp only [List.length_take] at *; omega)]; done)) | ((dsimp only; rw [cpy_len (by simp only [List.length_take, List.length_replicate, hM, hW] at *; omega)]; simp only [List.length_replicate, hM, hW]; omega)) | ((have hp := pre_len (xs := x1.1) (b := x1.2) (by omega); rw [cpy_len (by rw [List.length_take]; omega)]; done)) | ((simp only [hM, hW, List.length_replicate] at *; omega)) | ((rw [cpy_len (by simp only [List.length_take, List.length_replicate, hM, hW] at *; omega)]))
    · try simp only [Bool.and_eq_true, Bool.or_eq_true, Bool.not_eq_true', Bool.and_eq_false_iff, Bool.or_eq_false_iff, Bool.not_eq_false', decide_eq_true_eq, decide_eq_false_iff_not, beq_iff_eq, bne_iff_ne, beq_eq_false_iff_ne, bne_eq_false_iff_eq, Bool.true_and, ne_eq, Decidable.not_not, Int.not_lt, Int.not_le, Nat.not_lt, Nat.not_le, strB_nil, strB_nil', strB_nnil, strB_nnil'] at h3
      refine run_skip ?_
      refine run_seq ?_
      refine run_region (q_move .n (.t rfl) rfl <|
          q_conv .n (.t rfl) cv_146_3 rfl <|
          q_makem (f := V.int .i64) (l := 200) (0 : Int) .n rfl (.t rfl) (.t rfl) si_25 zv_2 (by first | omega | assumption | (simp only [List.length_append, List.length_cons, List.length_nil, List.length_replicate, put_len] at * <;> omega) | ((have hq := rep_step (by assumption) (by assumption) hp2.2 (by assumption); dsimp only at hq ⊢; omega)) | ((rw [cpy_len (by simp only [List.length_take] at *; omega)]; done)) | ((dsimp only; rw [cpy_len (by simp only [List.length_take, List.length_replicate, hM, hW] at *; omega)]; simp only [List.length_replicate, hM, hW]; omega)) | ((have hp := pre_len (xs := x1.1) (b := x1.2) (by omega); rw [cpy_len (by rw [List.length_take]; omega)]; done)) | ((simp only [hM, hW, List.length_replicate] at *; omega)) | ((rw [cpy_len (by simp only [List.length_take, List.length_replicate, hM, hW] at *; omega)]))) rfl rfl rfl <|
          q_assign .n (.t rfl) rfl <|
          Lex.nil) ?_
      refine run_seq ?_
      refine run_region (q_move .n (.t rfl) rfl <|
          q_move .n (.t rfl) rfl <|
          q_copym (ys := x_) (off := 0) (m := (List.replicate (IntKind.wrap .i64 (m_math_bits_Mul (IntKind.wrap .u64 (x_.length : Int)) (IntKind.wrap .u64 count)).2 : Int).toNat (0 : Int)).length) .n rfl (.os (.t rfl)) rfl (by first | omega | assumption | (simp only [List.length_append, List.length_cons, List.length_nil, List.length_replicate, put_len] at * <;> omega) | ((have hq := rep_step (by assumption) (by assumption) hp2.2 (by assumption); dsimp only at hq ⊢; omega)) | ((rw [cpy_len (by simp only [List.length_take] at *; omega)]; done)) | ((dsimp only; rw [cpy_len (by simp only [List.length_take, List.length_replicate, hM, hW] at *; omega)]; simp only [List.length_replicate, hM, hW]; omega)) | ((have hp := pre_len (xs := x1.1) (b := x1.2) (by omega); rw [cpy_len (by rw [List.length_take]; omega)]; done)) | ((simp only [hM, hW, List.length_replicate] at *; omega)) | ((rw [cpy_len (by simp only [List.length_take, List.length_replicate, hM, hW] at *; omega)]))) (.ro (.t rfl)) sl_25 rfl rfl <|
          q_assign .n (.t rfl) rfl <|
          Lex.nil) ?_
      refine run_seq ?_
      refine run_block ?_
      refine run_LOOP (m_slices_Repeat_int64_b1 x_ count) _ _ _ rfl (fun (x1 : (List Int) × Int) => (x1.1.length : Int) = count ∧ 1 ≤ x1.2 ∧ x1.2 ≤ count) (fun x1 => (x1.1.length : Int) = count ∧ 1 ≤ x1.2 ∧ x1.2 ≤ count) (fun x1 => (count - x1.2 : Int).toNat) (fun x1 => ⟨[(7, some (true, .os 200 x1.1.length)), (8, some (true, .int .i64 x1.2))], [(200, some (.row 2 1 (x1.1.map (V.int .i64))))]⟩) (fun x1 => ⟨[(7, some (true, .os 200 x1.1.length))], [(200, some (.row 2 1 (x1.1.map (V.int .i64))))]⟩) ⟨by first | omega | assumption | (simp only [List.length_append, List.length_cons, List.length_nil, List.length_replicate, put_len] at * <;> omega) | ((have hq := rep_step (by assumption) (by assumption) hp2.2 (by assumption); dsimp only at hq ⊢; omega)) | ((rw [cpy_len (by simp only [List.length_take] at *; omega)]; done)) | ((dsimp only; rw [cpy_len (by simp only [List.length_take, List.length_replicate, hM, hW] at *; omega)]; simp only [List.length_replicate, hM, hW]; omega)) | ((have hp := pre_len (xs := x1.1) (b := x1.2) (by omega); rw [cpy_len (by rw [List.length_take]; omega)]; done)) | ((simp only [hM, hW, List.length_replicate] at *; omega)) | ((rw [cpy_len (by simp only [List.length_take, List.length_replicate, hM, hW] at *; omega)])), by first | omega | assumption | (simp only [List.length_append, List.length_cons, List.length_nil, List.length_replicate, put_len] at * <;> omega) | ((have hq := rep_step (by assumption) (by assumption) hp2.2 (by assumption); dsimp only at hq ⊢; omega)) | ((rw [cpy_len (by simp only [List.length_take] at *; omega)]; done)) | ((dsimp only; rw [cpy_len (by simp only [List.length_take, List.length_replicate, hM, hW] at *; omega)]; simp only [List.length_replicate, hM, hW]; omega)) | ((have hp := pre_len (xs := x1.1) (b := x1.2) (by omega); rw [cpy_len (by rw [List.length_take]; omega)]; done)) | ((simp only [hM, hW, List.length_replicate] at *; omega)) | ((rw [cpy_len (by simp only [List.length_take, List.length_replicate, hM, hW] at *; omega)]))⟩ (by first | omega | assumption | (simp only [List.length_append, List.length_cons, List.length_nil, List.length_replicate, put_len] at * <;> omega) | ((have hq := rep_step (by assumption) (by assumption) hp2.2 (by assumption); dsimp only at hq ⊢; omega)) | ((rw [cpy_len (by simp only [List.length_take] at *; omega)]; done)) | ((dsimp only; rw [cpy_len (by simp only [List.length_take, List.length_replicate, hM, hW] at *; omega)]; simp only [List.length_replicate, hM, hW]; omega)) | ((have hp := pre_len (xs := x1.1) (b := x1.2) (by omega); rw [cpy_len (by rw [List.length_take]; omega)]; done)) | ((simp only [hM, hW, List.length_replicate] at *; omega)) | ((rw [cpy_len (by simp only [List.length_take, List.length_replicate, hM, hW] at *; omega)]))) (sub_of [] ⟨os_len rfl (by first | (simp only [put_len]; done) | (first | omega | assumption | (simp only [List.length_append, List.length_cons, List.length_nil, List.length_replicate, put_len] at * <;> omega) | ((have hq := rep_step (by assumption) (by assumption) hp2.2 (by assumption); dsimp only at hq ⊢; omega)) | ((rw [cpy_len (by simp only [List.length_take] at *; omega)]; done)) | ((dsimp only; rw [cpy_len (by simp only [List.length_take, List.length_replicate, hM, hW] at *; omega)]; simp only [List.length_replicate, hM, hW]; omega)) | ((have hp := pre_len (xs := x1.1) (b := x1.2) (by omega); rw [cpy_len (by rw [List.length_take]; omega)]; done)) | ((simp only [hM, hW, List.length_replicate] at *; omega)) | ((rw [cpy_len (by simp only [List.length_take, List.length_replicate, hM, hW] at *; omega)])))), rfl, trivial⟩ ⟨rfl, trivial⟩ rfl) ?_ ?_
      · intro x1 i7
        obtain ⟨e8, e9⟩ := i7
        try dsimp only at *
        refine run_seq ?_
        refine run_region (q_move .n (.t rfl) rfl <|
            q_assign .n (.t rfl) rfl <|
            Lex.nil) ?_
        exact run_ret [(100, 200)] (.cons (.t rfl rfl) .nil) (by first | rfl | (simp only [put_len]; rfl)) ⟨rfl, trivial⟩ rfl
      · intro rec1 k1 hk4 x1 i5
        obtain ⟨e10, e11⟩ := i5
        try dsimp only at *
        refine run_seq ?_
        refine run_seq ?_
        refine run_region (q_move .n (.t rfl) rfl <|
            q_move .n (.t rfl) rfl <|
            q_len .n (.t rfl) rfl rfl ss_25 rfl <|
            q_int .n (.t rfl) (.t rfl) rfl rfl <|
            Lex.nil) ?_
        refine run_cond (.t rfl) rfl (fun h6 => ?_) (fun h6 => ?_)
        · try simp only [Bool.and_eq_true, Bool.or_eq_true, Bool.not_eq_true', Bool.and_eq_false_iff, Bool.or_eq_false_iff, Bool.not_eq_false', decide_eq_true_eq, decide_eq_false_iff_not, beq_iff_eq, bne_iff_ne, beq_eq_false_iff_ne, bne_eq_false_iff_eq, Bool.true_and, ne_eq, Decidable.not_not, Int.not_lt, Int.not_le, Nat.not_lt, Nat.not_le, strB_nil, strB_nil', strB_nnil, strB_nnil'] at h6
          refine run_skip ?_
          refine run_block ?_
          refine run_draw fmo (q_move .n (.t rfl) rfl <|
              q_move .n (.t rfl) rfl <|
              q_move .n (.t rfl) rfl <|
              q_cut_oss (x1.1.length : Int) .n (.t rfl) (.s (.t rfl)) .n sl_25 rfl (fun _ => by first | omega | assumption | (simp only [List.length_append, List.length_cons, List.length_nil, List.length_replicate, put_len] at * <;> omega) | ((have hq := rep_step (by assumption) (by assumption) hp2.2 (by assumption); dsimp only at hq ⊢; omega)) | ((rw [cpy_len (by simp only [List.length_take] at *; omega)]; done)) | ((dsimp only; rw [cpy_len (by simp only [List.length_take, List.length_replicate, hM, hW] at *; omega)]; simp only [List.length_replicate, hM, hW]; omega)) | ((have hp := pre_len (xs := x1.1) (b := x1.2) (by omega); rw [cpy_len (by rw [List.length_take]; omega)]; done)) | ((simp only [hM, hW, List.length_replicate] at *; omega)) | ((rw [cpy_len (by simp only [List.length_take, List.length_replicate, hM, hW] at *; omega)]))) rfl <|
              q_move .n (.t rfl) rfl <|
              q_move .n (.t rfl) rfl <|
              q_cut_owm (xs := x1.1) (b := x1.2) .n (.t rfl) (.s (.t rfl)) sl_25 (fun _ => by first | omega | assumption | (simp only [List.length_append, List.length_cons, List.length_nil, List.length_replicate, put_len] at * <;> omega) | ((have hq := rep_step (by assumption) (by assumption) hp2.2 (by assumption); dsimp only at hq ⊢; omega)) | ((rw [cpy_len (by simp only [List.length_take] at *; omega)]; done)) | ((dsimp only; rw [cpy_len (by simp only [List.length_take, List.length_replicate, hM, hW] at *; omega)]; simp only [List.length_replicate, hM, hW]; omega)) | ((have hp := pre_len (xs := x1.1) (b := x1.2) (by omega); rw [cpy_len (by rw [List.length_take]; omega)]; done)) | ((simp only [hM, hW, List.length_replicate] at *; omega)) | ((rw [cpy_len (by simp only [List.length_take, List.length_replicate, hM, hW] at *; omega)]))) rfl <|
              q_copym (ys := pre' x1.1 x1.2) (off := x1.2.toNat) (m := ((x1.1.length : Int).toNat - x1.2.toNat)) .n rfl (.oss (.t rfl)) rfl (by first | omega | assumption | (simp only [List.length_append, List.length_cons, List.length_nil, List.length_replicate, put_len] at * <;> omega) | ((have hq := rep_step (by assumption) (by assumption) hp2.2 (by assumption); dsimp only at hq ⊢; omega)) | ((rw [cpy_len (by simp only [List.length_take] at *; omega)]; done)) | ((dsimp only; rw [cpy_len (by simp only [List.length_take, List.length_replicate, hM, hW] at *; omega)]; simp only [List.length_replicate, hM, hW]; omega)) | ((have hp := pre_len (xs := x1.1) (b := x1.2) (by omega); rw [cpy_len (by rw [List.length_take]; omega)]; done)) | ((simp only [hM, hW, List.length_replicate] at *; omega)) | ((rw [cpy_len (by simp only [List.length_take, List.length_replicate, hM, hW] at *; omega)]))) (.ow (.t rfl) rfl pre_map (by simp only [len_map, pre_len])) sl_25 rfl rfl <|
              q_int .n (.t rfl) (.t rfl) rfl rfl <|
              q_assign .n (.t rfl) rfl <|
              Lex.nil) (by kernel_rfl) ?_
          refine run_endB ?_
          exact run_again (cpy x1.1 (x1.2.toNat) ((pre' x1.1 x1.2).take (min (pre' x1.1 x1.2).length ((x1.1.length : Int).toNat - x1.2.toNat))), IntKind.wrap .i64 (x1.2 + (((min (pre' x1.1 x1.2).length ((x1.1.length : Int).toNat - x1.2.toNat)) : Nat) : Int))) ⟨by first | omega | assumption | (simp only [List.length_append, List.length_cons, List.length_nil, List.length_replicate, put_len] at * <;> omega) | ((have hq := rep_step (by assumption) (by assumption) hp2.2 (by assumption); dsimp only at hq ⊢; omega)) | ((rw [cpy_len (by simp only [List.length_take] at *; omega)]; done)) | ((dsimp only; rw [cpy_len (by simp only [List.length_take, List.length_replicate, hM, hW] at *; omega)]; simp only [List.length_replicate, hM, hW]; omega)) | ((have hp := pre_len (xs := x1.1) (b := x1.2) (by omega); rw [cpy_len (by rw [List.length_take]; omega)]; done)) | ((simp only [hM, hW, List.length_replicate] at *; omega)) | ((rw [cpy_len (by simp only [List.length_take, List.length_replicate, hM, hW] at *; omega)])), by first | omega | assumption | (simp only [List.length_append, List.length_cons, List.length_nil, List.length_replicate, put_len] at * <;> omega) | ((have hq := rep_step (by assumption) (by assumption) hp2.2 (by assumption); dsimp only at hq ⊢; omega)) | ((rw [cpy_len (by simp only [List.length_take] at *; omega)]; done)) | ((dsimp only; rw [cpy_len (by simp only [List.length_take, List.length_replicate, hM, hW] at *; omega)]; simp only [List.length_replicate, hM, hW]; omega)) | ((have hp := pre_len (xs := x1.1) (b := x1.2) (by omega); rw [cpy_len (by rw [List.length_take]; omega)]; done)) | ((simp only [hM, hW, List.length_replicate] at *; omega)) | ((rw [cpy_len (by simp only [List.length_take, List.length_replicate, hM, hW] at *; omega)]))⟩ (by first | omega | assumption | (simp only [List.length_append, List.length_cons, List.length_nil, List.length_replicate, put_len] at * <;> omega) | ((have hq := rep_step (by assumption) (by assumption) hp2.2 (by assumption); dsimp only at hq ⊢; omega)) | ((rw [cpy_len (by simp only [List.length_take] at *; omega)]; done)) | ((dsimp only; rw [cpy_len (by simp only [List.length_take, List.length_replicate, hM, hW] at *; omega)]; simp only [List.length_replicate, hM, hW]; omega)) | ((have hp := pre_len (xs := x1.1) (b := x1.2) (by omega); rw [cpy_len (by rw [List.length_take]; omega)]; done)) | ((simp only [hM, hW, List.length_replicate] at *; omega)) | ((rw [cpy_len (by simp only [List.length_take, List.length_replicate, hM, hW] at *; omega)]))) (sub_of [] ⟨os_len rfl (by first | (simp only [put_len]; done) | (first | omega | assumption | (simp only [List.length_append, List.length_cons, List.length_nil, List.length_replicate, put_len] at * <;> omega) | ((have hq := rep_step (by assumption) (by assumption) hp2.2 (by assumption); dsimp only at hq ⊢; omega)) | ((rw [cpy_len (by simp only [List.length_take] at *; omega)]; done)) | ((dsimp only; rw [cpy_len (by simp only [List.length_take, List.length_replicate, hM, hW] at *; omega)]; simp only [List.length_replicate, hM, hW]; omega)) | ((have hp := pre_len (xs := x1.1) (b := x1.2) (by omega); rw [cpy_len (by rw [List.length_take]; omega)]; done)) | ((simp only [hM, hW, List.length_replicate] at *; omega)) | ((rw [cpy_len (by simp only [List.length_take, List.length_replicate, hM, hW] at *; omega)])))), rfl, trivial⟩ ⟨rfl, trivial⟩ rfl)
        · try simp only [Bool.and_eq_true, Bool.or_eq_true, Bool.not_eq_true', Bool.and_eq_false_iff, Bool.or_eq_false_iff, Bool.not_eq_false', decide_eq_true_eq, decide_eq_false_iff_not, beq_iff_eq, bne_iff_ne, beq_eq_false_iff_ne, bne_eq_false_iff_eq, Bool.true_and, ne_eq, Decidable.not_not, Int.not_lt, Int.not_le, Nat.not_lt, Nat.not_le, strB_nil, strB_nil', strB_nnil, strB_nnil'] at h6
          refine run_exit rfl ?_
          exact run_cont hk4 (x1.1, x1.2) ⟨by first | omega | assumption | (simp only [List.length_append, List.length_cons, List.length_nil, List.length_replicate, put_len] at * <;> omega) | ((have hq := rep_step (by assumption) (by assumption) hp2.2 (by assumption); dsimp only at hq ⊢; omega)) | ((rw [cpy_len (by simp only [List.length_take] at *; omega)]; done)) | ((dsimp only; rw [cpy_len (by simp only [List.length_take, List.length_replicate, hM, hW] at *; omega)]; simp only [List.length_replicate, hM, hW]; omega)) | ((have hp := pre_len (xs := x1.1) (b := x1.2) (by omega); rw [cpy_len (by rw [List.length_take]; omega)]; done)) | ((simp only [hM, hW, List.length_replicate] at *; omega)) | ((rw [cpy_len (by simp only [List.length_take, List.length_replicate, hM, hW] at *; omega)])), by first | omega | assumption | (simp only [List.length_append, List.length_cons, List.length_nil, List.length_replicate, put_len] at * <;> omega) | ((have hq := rep_step (by assumption) (by assumption) hp2.2 (by assumption); dsimp only at hq ⊢; omega)) | ((rw [cpy_len (by simp only [List.length_take] at *; omega)]; done)) | ((dsimp only; rw [cpy_len (by simp only [List.length_take, List.length_replicate, hM, hW] at *; omega)]; simp only [List.length_replicate, hM, hW]; omega)) | ((have hp := pre_len (xs := x1.1) (b := x1.2) (by omega); rw [cpy_len (by rw [List.length_take]; omega)]; done)) | ((simp only [hM, hW, List.length_replicate] at *; omega)) | ((rw [cpy_len (by simp only [List.length_take, List.length_replicate, hM, hW] at *; omega)]))⟩ (sub_of [] ⟨rfl, trivial⟩ ⟨rfl, trivial⟩ rfl)

/-! ### impl_escape_mayBe -/
theorem c_impl_escape_mayBe (e : gescape) (junction : Int) (second : Int) (hp1 : 0 ≤ junction ∧ junction < e.arrivals.length) : Con Try.prog 84 [.st [.int .i64 e.mine.Junctions, .sl 7 (e.mine.Airways.map gAirway.v), .sl 1 (e.arrivals.map (V.int .i64)), .int .i64 e.blocked], .int .i64 junction, .int .i64 second] [] (.bool (m_impl_escape_mayBe e junction second)) ([]) := by
  refine con_intro (out := fun r : Bool => ((.bool r : V), ([] : List (Nat × Option O)))) (r := (m_impl_escape_mayBe e junction second)) Try.func84 rfl Try.ntmps84 rfl ?_
  refine run_factS (t := 0) 1 rfl rfl fun hl => ?_
  have l1 := hl; clear hl; simp only [List.length_map] at l1
  refine run_factS (t := 0) 2 rfl rfl fun hl => ?_
  have l2 := hl; clear hl; simp only [List.length_map] at l2
  refine run_seq ?_
  refine run_region (q_box (l := 200) .n rfl (.t rfl) rfl rfl rfl rfl <|
      q_assign .n (.c rfl) rfl <|
      Lex.nil) ?_
  refine run_seq ?_
  refine run_region (q_fld_ow .n (.t rfl) fo_78_1 rfl <|
      q_ld1_ow .n (.t rfl) rfl (.inr rfl) (fun _ => rfl) rfl ic_25 rfl <|
      q_move .n (.t rfl) rfl <|
      q_idx_rm .n (.t rfl) (.t rfl) sl_25 (fun _ => by first | omega | assumption | (simp only [List.length_append, List.length_cons, List.length_nil, List.length_replicate, put_len] at * <;> omega)) rfl <|
      q_ld1_ro .n (.t rfl) rfl ic_2 rfl <|
      q_int .n (.t rfl) (.c rfl) rfl rfl <|
      q_move .n (.t rfl) rfl <|
      q_fld_ow (.f rfl rfl) (.t rfl) fo_78_1 rfl <|
      q_ld1_ow (.f rfl rfl) (.u rfl id) rfl (.inr rfl) (fun _ => rfl) rfl ic_25 rfl <|
      q_move (.f rfl rfl) (.t rfl) rfl <|
      q_idx_rm (.f rfl rfl) (.u rfl id) (.u rfl id) sl_25 (fun hg => by simp only [Bool.and_eq_true, Bool.or_eq_true, Bool.not_eq_true', Bool.and_eq_false_iff, Bool.or_eq_false_iff, Bool.not_eq_false', decide_eq_true_eq, decide_eq_false_iff_not, beq_iff_eq, bne_iff_ne, beq_eq_false_iff_ne, bne_eq_false_iff_eq, Bool.true_and, ne_eq, Decidable.not_not, Int.not_lt, Int.not_le, Nat.not_lt, Nat.not_le, strB_nil, strB_nil', strB_nnil, strB_nnil'] at hg; first | omega | assumption | (simp only [List.length_append, List.length_cons, List.length_nil, List.length_replicate, put_len] at * <;> omega)) rfl <|
      q_ld1_ro (.f rfl rfl) (.u rfl id) rfl ic_2 rfl <|
      q_move (.f rfl rfl) (.t rfl) rfl <|
      q_int (.f rfl rfl) (.u rfl id) (.u rfl id) rfl rfl <|
      q_or .n (.t rfl) (.u rfl id) rfl <|
      q_assign .n (.t rfl) rfl <|
      Lex.nil) ?_
  exact run_ret [] (.cons (.t rfl rfl) .nil) rfl trivial rfl

/-! ### impl_divUp -/
theorem c_impl_divUp (a : Int) (b : Int) (hp1 : ¬ b = 0) : Con Try.prog 105 [.int .i64 a, .int .i64 b] [] (.int .i64 (m_impl_divUp a b)) ([]) := by
  refine con_intro (out := fun r : Int => ((.int .i64 r : V), ([] : List (Nat × Option O)))) (r := (m_impl_divUp a b)) Try.func105 rfl Try.ntmps105 rfl ?_
  refine run_seq ?_
  refine run_region (q_assign .n (.c rfl) rfl <|
      Lex.nil) ?_
  refine run_seq ?_
  refine run_region (q_move .n (.t rfl) rfl <|
      q_move .n (.t rfl) rfl <|
      q_int .n (.t rfl) (.t rfl) rfl rfl <|
      q_int .n (.t rfl) (.c rfl) rfl rfl <|
      q_move .n (.t rfl) rfl <|
      q_quo .n (.t rfl) (.t rfl) (fun hg => by first | omega | assumption | (simp only [List.length_append, List.length_cons, List.length_nil, List.length_replicate, put_len] at * <;> omega)) rfl <|
      q_assign .n (.t rfl) rfl <|
      Lex.nil) ?_
  exact run_ret [] (.cons (.t rfl rfl) .nil) rfl trivial rfl

/-! ### impl_Airway_walkTime -/
theorem c_impl_Airway_walkTime (a : gAirway) (speed : Int) (hp1 : 10 ≤ speed ∧ speed ≤ 300) : Con Try.prog 85 [.st [.str a.Id, .int .i64 a.From, .int .i64 a.To, .int .i64 a.Length, .int .i64 a.Section, .int .i64 a.Friction, .int .i64 a.Shock], .int .i64 speed] [] (.int .i64 (m_impl_Airway_walkTime a speed)) ([]) := by
  refine con_intro (out := fun r : Int => ((.int .i64 r : V), ([] : List (Nat × Option O)))) (r := (m_impl_Airway_walkTime a speed)) Try.func85 rfl Try.ntmps85 rfl ?_
  refine run_seq ?_
  refine run_region (q_box (l := 200) .n rfl (.t rfl) rfl rfl rfl rfl <|
      q_assign .n (.c rfl) rfl <|
      Lex.nil) ?_
  refine run_seq ?_
  refine run_region (q_fld_ow .n (.t rfl) fo_120_3 rfl <|
      q_ld1_ow .n (.t rfl) rfl (.inr rfl) (fun _ => rfl) rfl ic_2 rfl <|
      q_int .n (.c rfl) (.t rfl) rfl rfl <|
      q_move .n (.t rfl) rfl <|
      q_call0 (full := false) .n .f en_105 (.cons (.t rfl) (.cons (.t rfl) .nil)) (.cons (.b (.a (.same rfl))) (.cons (.b (.a (.same rfl))) .nil)) (fun hg => c_impl_divUp (IntKind.wrap .i64 (100 * a.Length)) speed (by first | omega | assumption | (simp only [List.length_append, List.length_cons, List.length_nil, List.length_replicate, put_len] at * <;> omega))) rfl (fun h => Bool.noConfusion h) rfl <|
      q_assign .n (.t rfl) rfl <|
      Lex.nil) ?_
  exact run_ret [] (.cons (.t rfl rfl) .nil) rfl trivial rfl

/-! ### impl_escape_times -/
set_option maxRecDepth 100000 in
set_option maxHeartbeats 4000000 in
theorem c_impl_escape_times (e : gescape) (c_ : gCrew) (start : Int) (hp1 : MineIn e.mine) (hp2 : (e.arrivals.length : Int) = e.mine.Junctions) (hp3 : CrewIn e.mine c_) (hp4 : 0 ≤ start ∧ start ≤ 36000) : Con Try.prog 44 [.st [.int .i64 e.mine.Junctions, .sl 7 (e.mine.Airways.map gAirway.v), .sl 1 (e.arrivals.map (V.int .i64)), .int .i64 e.blocked], .st [.str c_.Id, .int .i64 c_.Junction, .int .i64 c_.Speed], .int .i64 start] [] (.os 100 (m_impl_escape_times e c_ start).length) ([(100, some (.row 2 1 ((m_impl_escape_times e c_ start).map (V.int .i64))))]) := by
  refine con_intro (out := fun r : (List Int) => ((.os 100 r.length : V), ([(100, some (.row 2 1 (r.map (V.int .i64))))] : List (Nat × Option O)))) (r := (m_impl_escape_times e c_ start)) Try.func44 rfl Try.ntmps44 rfl ?_
  have hRl := rep_len hp1.1
  have hJ := hp1.1
  have hA := hp1.2.1
  have hC1 := hp3.1
  have hC2 := hp3.2
  have hJ1 := hp1.1
  have hA1 := hp1.2.1
  refine run_factS (t := 0) 1 rfl rfl fun hl => ?_
  have l1 := hl; clear hl; simp only [List.length_map] at l1
  refine run_factS (t := 0) 2 rfl rfl fun hl => ?_
  have l2 := hl; clear hl; simp only [List.length_map] at l2
  refine run_seq ?_
  refine run_region (q_box (l := 200) .n rfl (.t rfl) rfl rfl rfl rfl <|
      q_box (l := 201) .n rfl (.t rfl) rfl rfl rfl rfl <|
      q_assign .n (.c rfl) rfl <|
      Lex.nil) ?_
  refine run_seq ?_
  refine run_region (q_bslicem ([(-1)] : List Int) (f := V.int .i64) (l := 202) .n rfl rfl (.cons (.c rfl) .nil) rfl si_25 zv_2 rfl rfl rfl <|
      q_fld_ow .n (.t rfl) fo_78_0 rfl <|
      q_fld_ow .n (.t rfl) fo_34_0 rfl <|
      q_ld1_ow .n (.t rfl) rfl (.inr rfl) (fun _ => rfl) rfl ic_2 rfl <|
      q_callM (full := true) [] [(100, 203)] .n rfl .f en_83 (.cons (.t rfl) (.cons (.t rfl) .nil)) (.cons (.b (.a (.own rfl rfl rfl (take_all (by simp only [len_map, put_len])) (by simp only [len_map, put_len])))) (.cons (.b (.a (.same rfl))) .nil)) (c_slices_Repeat_int64 ([(-1)] : List Int) e.mine.Junctions (by first | omega | assumption | (simp only [List.length_append, List.length_cons, List.length_nil, List.length_replicate, put_len] at * <;> omega) | (exact cw_start hp1 hp3 hp4) | (exact cw_pot hp1 hp3 hp4) | (exact SmI.refl (by assumption)) | (exact SmI.mu (by assumption) (by assumption)) | (exact And.left (by assumption)) | ((have hS : SmI e.mine.Junctions x1.1 x3.1 x3.2.1 := (by assumption); have hl := hS.1.1; have hw0 := hp1.at (i := x2.2.2) (by omega); unfold AirIn at hw0; have hw1 := at2 hw0 (q := x3.2.2) (by omega); omega)) | ((have hS : SmI e.mine.Junctions x1.1 x3.1 x3.2.1 := (by assumption); have hl := hS.1.1; exact times_put hp1 hp3.2 hS (by omega) (by omega) (by assumption)))) (by first | omega | assumption | (simp only [List.length_append, List.length_cons, List.length_nil, List.length_replicate, put_len] at * <;> omega) | (exact cw_start hp1 hp3 hp4) | (exact cw_pot hp1 hp3 hp4) | (exact SmI.refl (by assumption)) | (exact SmI.mu (by assumption) (by assumption)) | (exact And.left (by assumption)) | ((have hS : SmI e.mine.Junctions x1.1 x3.1 x3.2.1 := (by assumption); have hl := hS.1.1; have hw0 := hp1.at (i := x2.2.2) (by omega); unfold AirIn at hw0; have hw1 := at2 hw0 (q := x3.2.2) (by omega); omega)) | ((have hS : SmI e.mine.Junctions x1.1 x3.1 x3.2.1 := (by assumption); have hl := hS.1.1; exact times_put hp1 hp3.2 hS (by omega) (by omega) (by assumption))))) trivial rfl rfl (fun _ => rfl) (fun _ => (hr_row (fun _ => rfl) hr_nil)) rfl <|
      q_assign .n (.t rfl) rfl <|
      Lex.nil) ?_
  refine run_seq ?_
  refine run_seq ?_
  refine run_region (q_ldN_ow .n (.t rfl) rfl (.inr rfl) ag_78 (fun _ => rfl) rfl rfl <|
      q_fld_ow .n (.t rfl) fo_37_1 rfl <|
      q_ld1_ow .n (.t rfl) rfl (.inr rfl) (fun _ => rfl) rfl ic_2 rfl <|
      q_move .n (.t rfl) rfl <|
      q_call0 (full := false) .n .f en_84 (.cons (.t rfl) (.cons (.t rfl) (.cons (.t rfl) .nil))) (.cons (.sts rfl) (.cons (.b (.a (.same rfl))) (.cons (.b (.a (.same rfl))) .nil))) (fun hg => c_impl_escape_mayBe e c_.Junction start (by first | omega | assumption | (simp only [List.length_append, List.length_cons, List.length_nil, List.length_replicate, put_len] at * <;> omega) | (exact cw_start hp1 hp3 hp4) | (exact cw_pot hp1 hp3 hp4) | (exact SmI.refl (by assumption)) | (exact SmI.mu (by assumption) (by assumption)) | (exact And.left (by assumption)) | ((have hS : SmI e.mine.Junctions x1.1 x3.1 x3.2.1 := (by assumption); have hl := hS.1.1; have hw0 := hp1.at (i := x2.2.2) (by omega); unfold AirIn at hw0; have hw1 := at2 hw0 (q := x3.2.2) (by omega); omega)) | ((have hS : SmI e.mine.Junctions x1.1 x3.1 x3.2.1 := (by assumption); have hl := hS.1.1; exact times_put hp1 hp3.2 hS (by omega) (by omega) (by assumption))))) rfl (fun h => Bool.noConfusion h) rfl <|
      q_not .n (.t rfl) rfl <|
      Lex.nil) ?_
  refine run_cond (.t rfl) rfl (fun h3 => ?_) (fun h3 => ?_)
  · try simp only [Bool.and_eq_true, Bool.or_eq_true, Bool.not_eq_true', Bool.and_eq_false_iff, Bool.or_eq_false_iff, Bool.not_eq_false', decide_eq_true_eq, decide_eq_false_iff_not, beq_iff_eq, bne_iff_ne, beq_eq_false_iff_ne, bne_eq_false_iff_eq, Bool.true_and, ne_eq, Decidable.not_not, Int.not_lt, Int.not_le, Nat.not_lt, Nat.not_le, strB_nil, strB_nil', strB_nnil, strB_nnil'] at h3
    refine run_seq ?_
    refine run_region (q_move .n (.t rfl) rfl <|
        q_assign .n (.t rfl) rfl <|
        Lex.nil) ?_
    exact run_ret [(100, 203)] (.cons (.t rfl rfl) .nil) (by first | rfl | (simp only [put_len]; rfl)) ⟨rfl, trivial⟩ rfl
  · try simp only [Bool.and_eq_true, Bool.or_eq_true, Bool.not_eq_true', Bool.and_eq_false_iff, Bool.or_eq_false_iff, Bool.not_eq_false', decide_eq_true_eq, decide_eq_false_iff_not, beq_iff_eq, bne_iff_ne, beq_eq_false_iff_ne, bne_eq_false_iff_eq, Bool.true_and, ne_eq, Decidable.not_not, Int.not_lt, Int.not_le, Nat.not_lt, Nat.not_le, strB_nil, strB_nil', strB_nnil, strB_nnil'] at h3
    refine run_skip ?_
    refine run_seq ?_
    refine run_region (q_move .n (.t rfl) rfl <|
        q_fld_ow .n (.t rfl) fo_37_1 rfl <|
        q_ld1_ow .n (.t rfl) rfl (.inr rfl) (fun _ => rfl) rfl ic_2 rfl <|
        q_move .n (.t rfl) rfl <|
        q_idx_ow .n (.t rfl) (.t rfl) sl_25 (fun _ => by first | omega | assumption | (simp only [List.length_append, List.length_cons, List.length_nil, List.length_replicate, put_len] at * <;> omega) | (exact cw_start hp1 hp3 hp4) | (exact cw_pot hp1 hp3 hp4) | (exact SmI.refl (by assumption)) | (exact SmI.mu (by assumption) (by assumption)) | (exact And.left (by assumption)) | ((have hS : SmI e.mine.Junctions x1.1 x3.1 x3.2.1 := (by assumption); have hl := hS.1.1; have hw0 := hp1.at (i := x2.2.2) (by omega); unfold AirIn at hw0; have hw1 := at2 hw0 (q := x3.2.2) (by omega); omega)) | ((have hS : SmI e.mine.Junctions x1.1 x3.1 x3.2.1 := (by assumption); have hl := hS.1.1; exact times_put hp1 hp3.2 hS (by omega) (by omega) (by assumption)))) rfl <|
        q_st_rowm start .n rfl (.t rfl) (.t rfl) rfl ts_2 (by first | omega | assumption | (simp only [List.length_append, List.length_cons, List.length_nil, List.length_replicate, put_len] at * <;> omega) | (exact cw_start hp1 hp3 hp4) | (exact cw_pot hp1 hp3 hp4) | (exact SmI.refl (by assumption)) | (exact SmI.mu (by assumption) (by assumption)) | (exact And.left (by assumption)) | ((have hS : SmI e.mine.Junctions x1.1 x3.1 x3.2.1 := (by assumption); have hl := hS.1.1; have hw0 := hp1.at (i := x2.2.2) (by omega); unfold AirIn at hw0; have hw1 := at2 hw0 (q := x3.2.2) (by omega); omega)) | ((have hS : SmI e.mine.Junctions x1.1 x3.1 x3.2.1 := (by assumption); have hl := hS.1.1; exact times_put hp1 hp3.2 hS (by omega) (by omega) (by assumption)))) rfl rfl <|
        Lex.nil) ?_
    refine run_seq ?_
    refine run_seq ?_
    refine run_region (q_assign .n (.c rfl) rfl <|
        Lex.nil) ?_
    refine run_block ?_
    refine run_LOOP (m_impl_escape_times_b1 e c_ start) _ _ _ rfl (fun (x1 : (List Int) × Bool) => SmB e.mine.Junctions x1.1) (fun x1 => SmB e.mine.Junctions x1.1) (fun x1 => pot x1.1 + (bif x1.2 then 1 else 0)) (fun x1 => ⟨[(3, some (true, .op 200 0 0 0)), (4, some (true, .op 201 0 0 0)), (7, some (true, .os 203 x1.1.length)), (8, some (true, .bool x1.2))], [(200, some (.box 78 [.int .i64 e.mine.Junctions, .sl 7 (e.mine.Airways.map gAirway.v), .sl 1 (e.arrivals.map (V.int .i64)), .int .i64 e.blocked])), (201, some (.box 37 [.str c_.Id, .int .i64 c_.Junction, .int .i64 c_.Speed])), (203, some (.row 2 1 (x1.1.map (V.int .i64))))]⟩) (fun x1 => ⟨[(7, some (true, .os 203 x1.1.length))], [(203, some (.row 2 1 (x1.1.map (V.int .i64))))]⟩) (by first | omega | assumption | (simp only [List.length_append, List.length_cons, List.length_nil, List.length_replicate, put_len] at * <;> omega) | (exact cw_start hp1 hp3 hp4) | (exact cw_pot hp1 hp3 hp4) | (exact SmI.refl (by assumption)) | (exact SmI.mu (by assumption) (by assumption)) | (exact And.left (by assumption)) | ((have hS : SmI e.mine.Junctions x1.1 x3.1 x3.2.1 := (by assumption); have hl := hS.1.1; have hw0 := hp1.at (i := x2.2.2) (by omega); unfold AirIn at hw0; have hw1 := at2 hw0 (q := x3.2.2) (by omega); omega)) | ((have hS : SmI e.mine.Junctions x1.1 x3.1 x3.2.1 := (by assumption); have hl := hS.1.1; exact times_put hp1 hp3.2 hS (by omega) (by omega) (by assumption)))) (by first | omega | assumption | (simp only [List.length_append, List.length_cons, List.length_nil, List.length_replicate, put_len] at * <;> omega) | (exact cw_start hp1 hp3 hp4) | (exact cw_pot hp1 hp3 hp4) | (exact SmI.refl (by assumption)) | (exact SmI.mu (by assumption) (by assumption)) | (exact And.left (by assumption)) | ((have hS : SmI e.mine.Junctions x1.1 x3.1 x3.2.1 := (by assumption); have hl := hS.1.1; have hw0 := hp1.at (i := x2.2.2) (by omega); unfold AirIn at hw0; have hw1 := at2 hw0 (q := x3.2.2) (by omega); omega)) | ((have hS : SmI e.mine.Junctions x1.1 x3.1 x3.2.1 := (by assumption); have hl := hS.1.1; exact times_put hp1 hp3.2 hS (by omega) (by omega) (by assumption)))) (sub_of [] ⟨rfl, rfl, os_len rfl (by first | (simp only [put_len]; done) | (first | omega | assumption | (simp only [List.length_append, List.length_cons, List.length_nil, List.length_replicate, put_len] at * <;> omega) | (exact cw_start hp1 hp3 hp4) | (exact cw_pot hp1 hp3 hp4) | (exact SmI.refl (by assumption)) | (exact SmI.mu (by assumption) (by assumption)) | (exact And.left (by assumption)) | ((have hS : SmI e.mine.Junctions x1.1 x3.1 x3.2.1 := (by assumption); have hl := hS.1.1; have hw0 := hp1.at (i := x2.2.2) (by omega); unfold AirIn at hw0; have hw1 := at2 hw0 (q := x3.2.2) (by omega); omega)) | ((have hS : SmI e.mine.Junctions x1.1 x3.1 x3.2.1 := (by assumption); have hl := hS.1.1; exact times_put hp1 hp3.2 hS (by omega) (by omega) (by assumption))))), rfl, trivial⟩ ⟨rfl, rfl, rfl, trivial⟩ rfl) ?_ ?_
    · intro x1 i32
      have e33 := i32
      try dsimp only at *
      refine run_seq ?_
      refine run_region (q_move .n (.t rfl) rfl <|
          q_assign .n (.t rfl) rfl <|
          Lex.nil) ?_
      exact run_ret [(100, 203)] (.cons (.t rfl rfl) .nil) (by first | rfl | (simp only [put_len]; rfl)) ⟨rfl, trivial⟩ rfl
    · intro rec1 k1 hk4 x1 i5
      have e34 := i5
      try dsimp only at *
      refine run_seq ?_
      refine run_seq ?_
      refine run_region (q_move .n (.t rfl) rfl <|
          Lex.nil) ?_
      refine run_cond (.t rfl) rfl (fun h6 => ?_) (fun h6 => ?_)
      · try simp only [Bool.and_eq_true, Bool.or_eq_true, Bool.not_eq_true', Bool.and_eq_false_iff, Bool.or_eq_false_iff, Bool.not_eq_false', decide_eq_true_eq, decide_eq_false_iff_not, beq_iff_eq, bne_iff_ne, beq_eq_false_iff_ne, bne_eq_false_iff_eq, Bool.true_and, ne_eq, Decidable.not_not, Int.not_lt, Int.not_le, Nat.not_lt, Nat.not_le, strB_nil, strB_nil', strB_nnil, strB_nnil'] at h6
        refine run_skip ?_
        refine run_block ?_
        refine run_seq ?_
        refine run_region (q_assign .n (.c rfl) rfl <|
            Lex.nil) ?_
        refine run_seq ?_
        refine run_region (q_fld_ow .n (.t rfl) fo_78_0 rfl <|
            q_fld_ow .n (.t rfl) fo_34_1 rfl <|
            q_ld1_ow .n (.t rfl) rfl (.inr rfl) (fun _ => rfl) rfl ic_32 rfl <|
            q_len .n (.t rfl) rfl len_map ss_32 rfl <|
            q_move .n (.c rfl) rfl <|
            Lex.nil) ?_
        refine run_block ?_
        refine run_LOOP (m_impl_escape_times_b2 e c_ start rec1 k1 x1) _ _ _ rfl (fun (x2 : (List Int) × Bool × Int) => 0 ≤ x2.2.2 ∧ x2.2.2 ≤ (e.mine.Airways.length : Int) ∧ SmI e.mine.Junctions x1.1 x2.1 x2.2.1) (fun x2 => 0 ≤ x2.2.2 ∧ x2.2.2 ≤ (e.mine.Airways.length : Int) ∧ SmI e.mine.Junctions x1.1 x2.1 x2.2.1 ∧ (e.mine.Airways.length : Int) ≤ x2.2.2) (fun x2 => ((e.mine.Airways.length : Int) - x2.2.2 : Int).toNat) (fun x2 => ⟨[(3, some (true, .op 200 0 0 0)), (4, some (true, .op 201 0 0 0)), (7, some (true, .os 203 x2.1.length)), (8, some (true, .bool x2.2.1)), (35, some (true, .sl 7 (e.mine.Airways.map gAirway.v))), (36, some (true, .int .i64 (e.mine.Airways.length : Int))), (37, some (true, .int .i64 x2.2.2))], [(200, some (.box 78 [.int .i64 e.mine.Junctions, .sl 7 (e.mine.Airways.map gAirway.v), .sl 1 (e.arrivals.map (V.int .i64)), .int .i64 e.blocked])), (201, some (.box 37 [.str c_.Id, .int .i64 c_.Junction, .int .i64 c_.Speed])), (203, some (.row 2 1 (x2.1.map (V.int .i64))))]⟩) (fun x2 => ⟨[(3, some (true, .op 200 0 0 0)), (4, some (true, .op 201 0 0 0)), (7, some (true, .os 203 x2.1.length)), (8, some (true, .bool x2.2.1))], [(200, some (.box 78 [.int .i64 e.mine.Junctions, .sl 7 (e.mine.Airways.map gAirway.v), .sl 1 (e.arrivals.map (V.int .i64)), .int .i64 e.blocked])), (201, some (.box 37 [.str c_.Id, .int .i64 c_.Junction, .int .i64 c_.Speed])), (203, some (.row 2 1 (x2.1.map (V.int .i64))))]⟩) ⟨by first | omega | assumption | (simp only [List.length_append, List.length_cons, List.length_nil, List.length_replicate, put_len] at * <;> omega) | (exact cw_start hp1 hp3 hp4) | (exact cw_pot hp1 hp3 hp4) | (exact SmI.refl (by assumption)) | (exact SmI.mu (by assumption) (by assumption)) | (exact And.left (by assumption)) | ((have hS : SmI e.mine.Junctions x1.1 x3.1 x3.2.1 := (by assumption); have hl := hS.1.1; have hw0 := hp1.at (i := x2.2.2) (by omega); unfold AirIn at hw0; have hw1 := at2 hw0 (q := x3.2.2) (by omega); omega)) | ((have hS : SmI e.mine.Junctions x1.1 x3.1 x3.2.1 := (by assumption); have hl := hS.1.1; exact times_put hp1 hp3.2 hS (by omega) (by omega) (by assumption))), by first | omega | assumption | (simp only [List.length_append, List.length_cons, List.length_nil, List.length_replicate, put_len] at * <;> omega) | (exact cw_start hp1 hp3 hp4) | (exact cw_pot hp1 hp3 hp4) | (exact SmI.refl (by assumption)) | (exact SmI.mu (by assumption) (by assumption)) | (exact And.left (by assumption)) | ((have hS : SmI e.mine.Junctions x1.1 x3.1 x3.2.1 := (by assumption); have hl := hS.1.1; have hw0 := hp1.at (i := x2.2.2) (by omega); unfold AirIn at hw0; have hw1 := at2 hw0 (q := x3.2.2) (by omega); omega)) | ((have hS : SmI e.mine.Junctions x1.1 x3.1 x3.2.1 := (by assumption); have hl := hS.1.1; exact times_put hp1 hp3.2 hS (by omega) (by omega) (by assumption))), by first | omega | assumption | (simp only [List.length_append, List.length_cons, List.length_nil, List.length_replicate, put_len] at * <;> omega) | (exact cw_start hp1 hp3 hp4) | (exact cw_pot hp1 hp3 hp4) | (exact SmI.refl (by assumption)) | (exact SmI.mu (by assumption) (by assumption)) | (exact And.left (by assumption)) | ((have hS : SmI e.mine.Junctions x1.1 x3.1 x3.2.1 := (by assumption); have hl := hS.1.1; have hw0 := hp1.at (i := x2.2.2) (by omega); unfold AirIn at hw0; have hw1 := at2 hw0 (q := x3.2.2) (by omega); omega)) | ((have hS : SmI e.mine.Junctions x1.1 x3.1 x3.2.1 := (by assumption); have hl := hS.1.1; exact times_put hp1 hp3.2 hS (by omega) (by omega) (by assumption)))⟩ (by first | omega | assumption | (simp only [List.length_append, List.length_cons, List.length_nil, List.length_replicate, put_len] at * <;> omega) | (exact cw_start hp1 hp3 hp4) | (exact cw_pot hp1 hp3 hp4) | (exact SmI.refl (by assumption)) | (exact SmI.mu (by assumption) (by assumption)) | (exact And.left (by assumption)) | ((have hS : SmI e.mine.Junctions x1.1 x3.1 x3.2.1 := (by assumption); have hl := hS.1.1; have hw0 := hp1.at (i := x2.2.2) (by omega); unfold AirIn at hw0; have hw1 := at2 hw0 (q := x3.2.2) (by omega); omega)) | ((have hS : SmI e.mine.Junctions x1.1 x3.1 x3.2.1 := (by assumption); have hl := hS.1.1; exact times_put hp1 hp3.2 hS (by omega) (by omega) (by assumption)))) (sub_of [] ⟨rfl, rfl, rfl, rfl, rfl, rfl, rfl, trivial⟩ ⟨rfl, rfl, rfl, trivial⟩ rfl) ?_ ?_
        · intro x2 i24
          obtain ⟨e25, e26, e27, e28⟩ := i24
          try dsimp only at *
          refine run_endB ?_
          exact run_again (x2.1, x2.2.1) (by first | omega | assumption | (simp only [List.length_append, List.length_cons, List.length_nil, List.length_replicate, put_len] at * <;> omega) | (exact cw_start hp1 hp3 hp4) | (exact cw_pot hp1 hp3 hp4) | (exact SmI.refl (by assumption)) | (exact SmI.mu (by assumption) (by assumption)) | (exact And.left (by assumption)) | ((have hS : SmI e.mine.Junctions x1.1 x3.1 x3.2.1 := (by assumption); have hl := hS.1.1; have hw0 := hp1.at (i := x2.2.2) (by omega); unfold AirIn at hw0; have hw1 := at2 hw0 (q := x3.2.2) (by omega); omega)) | ((have hS : SmI e.mine.Junctions x1.1 x3.1 x3.2.1 := (by assumption); have hl := hS.1.1; exact times_put hp1 hp3.2 hS (by omega) (by omega) (by assumption)))) (by first | omega | assumption | (simp only [List.length_append, List.length_cons, List.length_nil, List.length_replicate, put_len] at * <;> omega) | (exact cw_start hp1 hp3 hp4) | (exact cw_pot hp1 hp3 hp4) | (exact SmI.refl (by assumption)) | (exact SmI.mu (by assumption) (by assumption)) | (exact And.left (by assumption)) | ((have hS : SmI e.mine.Junctions x1.1 x3.1 x3.2.1 := (by assumption); have hl := hS.1.1; have hw0 := hp1.at (i := x2.2.2) (by omega); unfold AirIn at hw0; have hw1 := at2 hw0 (q := x3.2.2) (by omega); omega)) | ((have hS : SmI e.mine.Junctions x1.1 x3.1 x3.2.1 := (by assumption); have hl := hS.1.1; exact times_put hp1 hp3.2 hS (by omega) (by omega) (by assumption)))) (sub_of [] ⟨rfl, rfl, rfl, rfl, trivial⟩ ⟨rfl, rfl, rfl, trivial⟩ rfl)
        · intro rec2 k2 hk7 x2 i8
          obtain ⟨e29, e30, e31⟩ := i8
          try dsimp only at *
          refine run_seq ?_
          refine run_region (q_int .n (.t rfl) (.t rfl) rfl rfl <|
              Lex.nil) ?_
          refine run_seq ?_
          refine run_cond (.t rfl) rfl (fun h9 => ?_) (fun h9 => ?_)
          · try simp only [Bool.and_eq_true, Bool.or_eq_true, Bool.not_eq_true', Bool.and_eq_false_iff, Bool.or_eq_false_iff, Bool.not_eq_false', decide_eq_true_eq, decide_eq_false_iff_not, beq_iff_eq, bne_iff_ne, beq_eq_false_iff_ne, bne_eq_false_iff_eq, Bool.true_and, ne_eq, Decidable.not_not, Int.not_lt, Int.not_le, Nat.not_lt, Nat.not_le, strB_nil, strB_nil', strB_nnil, strB_nnil'] at h9
            refine run_skip ?_
            refine run_seq ?_
            refine run_block ?_
            refine run_seq ?_
            refine run_region (q_move .n (.t rfl) rfl <|
                q_idx_rm .n (.t rfl) (.t rfl) sl_32 (fun _ => by first | omega | assumption | (simp only [List.length_append, List.length_cons, List.length_nil, List.length_replicate, put_len] at * <;> omega) | (exact cw_start hp1 hp3 hp4) | (exact cw_pot hp1 hp3 hp4) | (exact SmI.refl (by assumption)) | (exact SmI.mu (by assumption) (by assumption)) | (exact And.left (by assumption)) | ((have hS : SmI e.mine.Junctions x1.1 x3.1 x3.2.1 := (by assumption); have hl := hS.1.1; have hw0 := hp1.at (i := x2.2.2) (by omega); unfold AirIn at hw0; have hw1 := at2 hw0 (q := x3.2.2) (by omega); omega)) | ((have hS : SmI e.mine.Junctions x1.1 x3.1 x3.2.1 := (by assumption); have hl := hS.1.1; exact times_put hp1 hp3.2 hS (by omega) (by omega) (by assumption)))) rfl <|
                q_ldN_ro .n (.t rfl) ag_120 rfl rfl rfl <|
                q_alloc (l := 204) .n rfl zv_120 rfl rfl <|
                q_assign .n (.t rfl) rfl <|
                q_st_boxm [.str (at' e.mine.Airways x2.2.2).Id, .int .i64 (at' e.mine.Airways x2.2.2).From, .int .i64 (at' e.mine.Airways x2.2.2).To, .int .i64 (at' e.mine.Airways x2.2.2).Length, .int .i64 (at' e.mine.Airways x2.2.2).Section, .int .i64 (at' e.mine.Airways x2.2.2).Friction, .int .i64 (at' e.mine.Airways x2.2.2).Shock] .n rfl (.t rfl) (.t rfl) rfl ts_120 rfl rfl <|
                Lex.nil) ?_
            refine run_seq ?_
            refine run_region (q_fld_ow .n (.t rfl) fo_120_1 rfl <|
                q_ld1_ow .n (.t rfl) rfl (.inr rfl) (fun _ => rfl) rfl ic_2 rfl <|
                q_fld_ow .n (.t rfl) fo_120_2 rfl <|
                q_ld1_ow .n (.t rfl) rfl (.inr rfl) (fun _ => rfl) rfl ic_2 rfl <|
                q_builda (us := [.int .i64 (at' e.mine.Airways x2.2.2).From, .int .i64 (at' e.mine.Airways x2.2.2).To]) .n (.cons (.t rfl) (.cons (.t rfl) .nil)) zv_128 ae_128 rfl rfl rfl <|
                q_fld_ow .n (.t rfl) fo_120_2 rfl <|
                q_ld1_ow .n (.t rfl) rfl (.inr rfl) (fun _ => rfl) rfl ic_2 rfl <|
                q_fld_ow .n (.t rfl) fo_120_1 rfl <|
                q_ld1_ow .n (.t rfl) rfl (.inr rfl) (fun _ => rfl) rfl ic_2 rfl <|
                q_builda (us := [.int .i64 (at' e.mine.Airways x2.2.2).To, .int .i64 (at' e.mine.Airways x2.2.2).From]) .n (.cons (.t rfl) (.cons (.t rfl) .nil)) zv_128 ae_128 rfl rfl rfl <|
                q_builda (us := [.int .i64 (at' e.mine.Airways x2.2.2).From, .int .i64 (at' e.mine.Airways x2.2.2).To, .int .i64 (at' e.mine.Airways x2.2.2).To, .int .i64 (at' e.mine.Airways x2.2.2).From]) .n (.cons (.t rfl) (.cons (.t rfl) .nil)) zv_129 ae_129 rfl rfl rfl <|
                q_move .n (.c rfl) rfl <|
                Lex.nil) ?_
            refine run_block ?_
            refine run_LOOP (m_impl_escape_times_b3 e c_ start rec1 k1 x1 rec2 k2 x2) _ _ _ rfl (fun (x3 : (List Int) × Bool × Int) => 0 ≤ x3.2.2 ∧ x3.2.2 ≤ 2 ∧ x3.1.length = x2.1.length ∧ SmI e.mine.Junctions x1.1 x3.1 x3.2.1) (fun x3 => 0 ≤ x3.2.2 ∧ x3.2.2 ≤ 2 ∧ x3.1.length = x2.1.length ∧ SmI e.mine.Junctions x1.1 x3.1 x3.2.1 ∧ 2 ≤ x3.2.2) (fun x3 => (2 - x3.2.2 : Int).toNat) (fun x3 => ⟨[(3, some (true, .op 200 0 0 0)), (4, some (true, .op 201 0 0 0)), (7, some (true, .os 203 x3.1.length)), (8, some (true, .bool x3.2.1)), (9, some (true, .int .i64 x2.2.2)), (10, some (true, .op 204 0 0 0)), (35, some (true, .sl 7 (e.mine.Airways.map gAirway.v))), (36, some (true, .int .i64 (e.mine.Airways.length : Int))), (37, some (true, .int .i64 x2.2.2)), (52, some (true, .st [.int .i64 (at' e.mine.Airways x2.2.2).From, .int .i64 (at' e.mine.Airways x2.2.2).To, .int .i64 (at' e.mine.Airways x2.2.2).To, .int .i64 (at' e.mine.Airways x2.2.2).From])), (53, some (true, .int .i64 x3.2.2))], [(200, some (.box 78 [.int .i64 e.mine.Junctions, .sl 7 (e.mine.Airways.map gAirway.v), .sl 1 (e.arrivals.map (V.int .i64)), .int .i64 e.blocked])), (201, some (.box 37 [.str c_.Id, .int .i64 c_.Junction, .int .i64 c_.Speed])), (203, some (.row 2 1 (x3.1.map (V.int .i64)))), (204, some (.box 120 [.str (at' e.mine.Airways x2.2.2).Id, .int .i64 (at' e.mine.Airways x2.2.2).From, .int .i64 (at' e.mine.Airways x2.2.2).To, .int .i64 (at' e.mine.Airways x2.2.2).Length, .int .i64 (at' e.mine.Airways x2.2.2).Section, .int .i64 (at' e.mine.Airways x2.2.2).Friction, .int .i64 (at' e.mine.Airways x2.2.2).Shock]))]⟩) (fun x3 => ⟨[(3, some (true, .op 200 0 0 0)), (4, some (true, .op 201 0 0 0)), (7, some (true, .os 203 x3.1.length)), (8, some (true, .bool x3.2.1)), (35, some (true, .sl 7 (e.mine.Airways.map gAirway.v))), (36, some (true, .int .i64 (e.mine.Airways.length : Int))), (37, some (true, .int .i64 x2.2.2))], [(200, some (.box 78 [.int .i64 e.mine.Junctions, .sl 7 (e.mine.Airways.map gAirway.v), .sl 1 (e.arrivals.map (V.int .i64)), .int .i64 e.blocked])), (201, some (.box 37 [.str c_.Id, .int .i64 c_.Junction, .int .i64 c_.Speed])), (203, some (.row 2 1 (x3.1.map (V.int .i64))))]⟩) ⟨by first | omega | assumption | (simp only [List.length_append, List.length_cons, List.length_nil, List.length_replicate, put_len] at * <;> omega) | (exact cw_start hp1 hp3 hp4) | (exact cw_pot hp1 hp3 hp4) | (exact SmI.refl (by assumption)) | (exact SmI.mu (by assumption) (by assumption)) | (exact And.left (by assumption)) | ((have hS : SmI e.mine.Junctions x1.1 x3.1 x3.2.1 := (by assumption); have hl := hS.1.1; have hw0 := hp1.at (i := x2.2.2) (by omega); unfold AirIn at hw0; have hw1 := at2 hw0 (q := x3.2.2) (by omega); omega)) | ((have hS : SmI e.mine.Junctions x1.1 x3.1 x3.2.1 := (by assumption); have hl := hS.1.1; exact times_put hp1 hp3.2 hS (by omega) (by omega) (by assumption))), by first | omega | assumption | (simp only [List.length_append, List.length_cons, List.length_nil, List.length_replicate, put_len] at * <;> omega) | (exact cw_start hp1 hp3 hp4) | (exact cw_pot hp1 hp3 hp4) | (exact SmI.refl (by assumption)) | (exact SmI.mu (by assumption) (by assumption)) | (exact And.left (by assumption)) | ((have hS : SmI e.mine.Junctions x1.1 x3.1 x3.2.1 := (by assumption); have hl := hS.1.1; have hw0 := hp1.at (i := x2.2.2) (by omega); unfold AirIn at hw0; have hw1 := at2 hw0 (q := x3.2.2) (by omega); omega)) | ((have hS : SmI e.mine.Junctions x1.1 x3.1 x3.2.1 := (by assumption); have hl := hS.1.1; exact times_put hp1 hp3.2 hS (by omega) (by omega) (by assumption))), by first | omega | assumption | (simp only [List.length_append, List.length_cons, List.length_nil, List.length_replicate, put_len] at * <;> omega) | (exact cw_start hp1 hp3 hp4) | (exact cw_pot hp1 hp3 hp4) | (exact SmI.refl (by assumption)) | (exact SmI.mu (by assumption) (by assumption)) | (exact And.left (by assumption)) | ((have hS : SmI e.mine.Junctions x1.1 x3.1 x3.2.1 := (by assumption); have hl := hS.1.1; have hw0 := hp1.at (i := x2.2.2) (by omega); unfold AirIn at hw0; have hw1 := at2 hw0 (q := x3.2.2) (by omega); omega)) | ((have hS : SmI e.mine.Junctions x1.1 x3.1 x3.2.1 := (by assumption); have hl := hS.1.1; exact times_put hp1 hp3.2 hS (by omega) (by omega) (by assumption))), by first | omega | assumption | (simp only [List.length_append, List.length_cons, List.length_nil, List.length_replicate, put_len] at * <;> omega) | (exact cw_start hp1 hp3 hp4) | (exact cw_pot hp1 hp3 hp4) | (exact SmI.refl (by assumption)) | (exact SmI.mu (by assumption) (by assumption)) | (exact And.left (by assumption)) | ((have hS : SmI e.mine.Junctions x1.1 x3.1 x3.2.1 := (by assumption); have hl := hS.1.1; have hw0 := hp1.at (i := x2.2.2) (by omega); unfold AirIn at hw0; have hw1 := at2 hw0 (q := x3.2.2) (by omega); omega)) | ((have hS : SmI e.mine.Junctions x1.1 x3.1 x3.2.1 := (by assumption); have hl := hS.1.1; exact times_put hp1 hp3.2 hS (by omega) (by omega) (by assumption)))⟩ (by first | omega | assumption | (simp only [List.length_append, List.length_cons, List.length_nil, List.length_replicate, put_len] at * <;> omega) | (exact cw_start hp1 hp3 hp4) | (exact cw_pot hp1 hp3 hp4) | (exact SmI.refl (by assumption)) | (exact SmI.mu (by assumption) (by assumption)) | (exact And.left (by assumption)) | ((have hS : SmI e.mine.Junctions x1.1 x3.1 x3.2.1 := (by assumption); have hl := hS.1.1; have hw0 := hp1.at (i := x2.2.2) (by omega); unfold AirIn at hw0; have hw1 := at2 hw0 (q := x3.2.2) (by omega); omega)) | ((have hS : SmI e.mine.Junctions x1.1 x3.1 x3.2.1 := (by assumption); have hl := hS.1.1; exact times_put hp1 hp3.2 hS (by omega) (by omega) (by assumption)))) (sub_of [] ⟨rfl, rfl, rfl, rfl, rfl, rfl, rfl, rfl, rfl, rfl, rfl, trivial⟩ ⟨rfl, rfl, rfl, rfl, trivial⟩ rfl) ?_ ?_
            · intro x3 i14
              obtain ⟨e15, e16, e17, e18, e19⟩ := i14
              try dsimp only at *
              refine run_endB ?_
              refine run_region (q_add .n (.t rfl) (.c rfl) (fun _ => by first | omega | assumption | (simp only [List.length_append, List.length_cons, List.length_nil, List.length_replicate, put_len] at * <;> omega) | (exact cw_start hp1 hp3 hp4) | (exact cw_pot hp1 hp3 hp4) | (exact SmI.refl (by assumption)) | (exact SmI.mu (by assumption) (by assumption)) | (exact And.left (by assumption)) | ((have hS : SmI e.mine.Junctions x1.1 x3.1 x3.2.1 := (by assumption); have hl := hS.1.1; have hw0 := hp1.at (i := x2.2.2) (by omega); unfold AirIn at hw0; have hw1 := at2 hw0 (q := x3.2.2) (by omega); omega)) | ((have hS : SmI e.mine.Junctions x1.1 x3.1 x3.2.1 := (by assumption); have hl := hS.1.1; exact times_put hp1 hp3.2 hS (by omega) (by omega) (by assumption)))) rfl <|
                  q_move .n (.t rfl) rfl <|
                  Lex.nil) ?_
              exact run_again (x3.1, x3.2.1, x2.2.2 + 1) ⟨by first | omega | assumption | (simp only [List.length_append, List.length_cons, List.length_nil, List.length_replicate, put_len] at * <;> omega) | (exact cw_start hp1 hp3 hp4) | (exact cw_pot hp1 hp3 hp4) | (exact SmI.refl (by assumption)) | (exact SmI.mu (by assumption) (by assumption)) | (exact And.left (by assumption)) | ((have hS : SmI e.mine.Junctions x1.1 x3.1 x3.2.1 := (by assumption); have hl := hS.1.1; have hw0 := hp1.at (i := x2.2.2) (by omega); unfold AirIn at hw0; have hw1 := at2 hw0 (q := x3.2.2) (by omega); omega)) | ((have hS : SmI e.mine.Junctions x1.1 x3.1 x3.2.1 := (by assumption); have hl := hS.1.1; exact times_put hp1 hp3.2 hS (by omega) (by omega) (by assumption))), by first | omega | assumption | (simp only [List.length_append, List.length_cons, List.length_nil, List.length_replicate, put_len] at * <;> omega) | (exact cw_start hp1 hp3 hp4) | (exact cw_pot hp1 hp3 hp4) | (exact SmI.refl (by assumption)) | (exact SmI.mu (by assumption) (by assumption)) | (exact And.left (by assumption)) | ((have hS : SmI e.mine.Junctions x1.1 x3.1 x3.2.1 := (by assumption); have hl := hS.1.1; have hw0 := hp1.at (i := x2.2.2) (by omega); unfold AirIn at hw0; have hw1 := at2 hw0 (q := x3.2.2) (by omega); omega)) | ((have hS : SmI e.mine.Junctions x1.1 x3.1 x3.2.1 := (by assumption); have hl := hS.1.1; exact times_put hp1 hp3.2 hS (by omega) (by omega) (by assumption))), by first | omega | assumption | (simp only [List.length_append, List.length_cons, List.length_nil, List.length_replicate, put_len] at * <;> omega) | (exact cw_start hp1 hp3 hp4) | (exact cw_pot hp1 hp3 hp4) | (exact SmI.refl (by assumption)) | (exact SmI.mu (by assumption) (by assumption)) | (exact And.left (by assumption)) | ((have hS : SmI e.mine.Junctions x1.1 x3.1 x3.2.1 := (by assumption); have hl := hS.1.1; have hw0 := hp1.at (i := x2.2.2) (by omega); unfold AirIn at hw0; have hw1 := at2 hw0 (q := x3.2.2) (by omega); omega)) | ((have hS : SmI e.mine.Junctions x1.1 x3.1 x3.2.1 := (by assumption); have hl := hS.1.1; exact times_put hp1 hp3.2 hS (by omega) (by omega) (by assumption)))⟩ (by first | omega | assumption | (simp only [List.length_append, List.length_cons, List.length_nil, List.length_replicate, put_len] at * <;> omega) | (exact cw_start hp1 hp3 hp4) | (exact cw_pot hp1 hp3 hp4) | (exact SmI.refl (by assumption)) | (exact SmI.mu (by assumption) (by assumption)) | (exact And.left (by assumption)) | ((have hS : SmI e.mine.Junctions x1.1 x3.1 x3.2.1 := (by assumption); have hl := hS.1.1; have hw0 := hp1.at (i := x2.2.2) (by omega); unfold AirIn at hw0; have hw1 := at2 hw0 (q := x3.2.2) (by omega); omega)) | ((have hS : SmI e.mine.Junctions x1.1 x3.1 x3.2.1 := (by assumption); have hl := hS.1.1; exact times_put hp1 hp3.2 hS (by omega) (by omega) (by assumption)))) (sub_of [] ⟨rfl, rfl, rfl, rfl, rfl, rfl, rfl, trivial⟩ ⟨rfl, rfl, rfl, trivial⟩ rfl)
            · intro rec3 k3 hk10 x3 i11
              obtain ⟨e20, e21, e22, e23⟩ := i11
              try dsimp only at *
              refine run_seq ?_
              refine run_region (q_int .n (.t rfl) (.c rfl) rfl rfl <|
                  Lex.nil) ?_
              refine run_seq ?_
              refine run_cond (.t rfl) rfl (fun h12 => ?_) (fun h12 => ?_)
              · try simp only [Bool.and_eq_true, Bool.or_eq_true, Bool.not_eq_true', Bool.and_eq_false_iff, Bool.or_eq_false_iff, Bool.not_eq_false', decide_eq_true_eq, decide_eq_false_iff_not, beq_iff_eq, bne_iff_ne, beq_eq_false_iff_ne, bne_eq_false_iff_eq, Bool.true_and, ne_eq, Decidable.not_not, Int.not_lt, Int.not_le, Nat.not_lt, Nat.not_le, strB_nil, strB_nil', strB_nnil, strB_nnil'] at h12
                refine run_skip ?_
                refine run_seq ?_
                refine run_block ?_
                refine run_seq ?_
                refine run_region (q_indexa [.int .i64 (at' ([(at' e.mine.Airways x2.2.2).From, (at' e.mine.Airways x2.2.2).To] : List Int) x3.2.2), .int .i64 (at' ([(at' e.mine.Airways x2.2.2).To, (at' e.mine.Airways x2.2.2).From] : List Int) x3.2.2)] .n (.t rfl) (.t rfl) ae_129 ag_128 rfl (fun _ => by first | omega | assumption | (simp only [List.length_append, List.length_cons, List.length_nil, List.length_replicate, put_len] at * <;> omega) | (exact cw_start hp1 hp3 hp4) | (exact cw_pot hp1 hp3 hp4) | (exact SmI.refl (by assumption)) | (exact SmI.mu (by assumption) (by assumption)) | (exact And.left (by assumption)) | ((have hS : SmI e.mine.Junctions x1.1 x3.1 x3.2.1 := (by assumption); have hl := hS.1.1; have hw0 := hp1.at (i := x2.2.2) (by omega); unfold AirIn at hw0; have hw1 := at2 hw0 (q := x3.2.2) (by omega); omega)) | ((have hS : SmI e.mine.Junctions x1.1 x3.1 x3.2.1 := (by assumption); have hl := hS.1.1; exact times_put hp1 hp3.2 hS (by omega) (by omega) (by assumption)))) (fun _ => by have h : x3.2.2 = 0 ∨ x3.2.2 = 1 := (by first | omega | (simp only [List.length_append, List.length_cons, List.length_nil, List.length_replicate, put_len] at *; omega)); rcases h with h | h <;> (rw [h]; rfl)) rfl <|
                    q_alloc (l := 205) .n rfl zv_128 rfl rfl <|
                    q_st_boxm [.int .i64 (at' ([(at' e.mine.Airways x2.2.2).From, (at' e.mine.Airways x2.2.2).To] : List Int) x3.2.2), .int .i64 (at' ([(at' e.mine.Airways x2.2.2).To, (at' e.mine.Airways x2.2.2).From] : List Int) x3.2.2)] .n rfl (.t rfl) (.t rfl) rfl ts_128 rfl rfl <|
                    Lex.nil) ?_
                refine run_seq ?_
                refine run_draw fmo (q_move .n (.t rfl) rfl <|
                    q_idxa_ow .n (.t rfl) (.c rfl) ae_128 (by decide) 0 rfl rfl <|
                    q_ld1_ow .n (.t rfl) rfl (.inr rfl) (fun _ => rfl) rfl ic_2 rfl <|
                    q_idx_ow .n (.t rfl) (.t rfl) sl_25 (fun _ => by first | omega | assumption | (simp only [List.length_append, List.length_cons, List.length_nil, List.length_replicate, put_len] at * <;> omega) | (exact cw_start hp1 hp3 hp4) | (exact cw_pot hp1 hp3 hp4) | (exact SmI.refl (by assumption)) | (exact SmI.mu (by assumption) (by assumption)) | (exact And.left (by assumption)) | ((have hS : SmI e.mine.Junctions x1.1 x3.1 x3.2.1 := (by assumption); have hl := hS.1.1; have hw0 := hp1.at (i := x2.2.2) (by omega); unfold AirIn at hw0; have hw1 := at2 hw0 (q := x3.2.2) (by omega); omega)) | ((have hS : SmI e.mine.Junctions x1.1 x3.1 x3.2.1 := (by assumption); have hl := hS.1.1; exact times_put hp1 hp3.2 hS (by omega) (by omega) (by assumption)))) rfl <|
                    q_ld1_row .n (.t rfl) rfl (fun _ => by first | omega | assumption | (simp only [List.length_append, List.length_cons, List.length_nil, List.length_replicate, put_len] at * <;> omega) | (exact cw_start hp1 hp3 hp4) | (exact cw_pot hp1 hp3 hp4) | (exact SmI.refl (by assumption)) | (exact SmI.mu (by assumption) (by assumption)) | (exact And.left (by assumption)) | ((have hS : SmI e.mine.Junctions x1.1 x3.1 x3.2.1 := (by assumption); have hl := hS.1.1; have hw0 := hp1.at (i := x2.2.2) (by omega); unfold AirIn at hw0; have hw1 := at2 hw0 (q := x3.2.2) (by omega); omega)) | ((have hS : SmI e.mine.Junctions x1.1 x3.1 x3.2.1 := (by assumption); have hl := hS.1.1; exact times_put hp1 hp3.2 hS (by omega) (by omega) (by assumption)))) rfl rfl rfl ic_2 rfl <|
                    q_ldN_ow .n (.t rfl) rfl (.inr rfl) ag_120 (fun _ => rfl) rfl rfl <|
                    q_fld_ow .n (.t rfl) fo_37_2 rfl <|
                    q_ld1_ow .n (.t rfl) rfl (.inr rfl) (fun _ => rfl) rfl ic_2 rfl <|
                    q_call0 (full := false) .n .f en_85 (.cons (.t rfl) (.cons (.t rfl) .nil)) (.cons (.sts rfl) (.cons (.b (.a (.same rfl))) .nil)) (fun hg => c_impl_Airway_walkTime (at' e.mine.Airways x2.2.2) c_.Speed (by first | omega | assumption | (simp only [List.length_append, List.length_cons, List.length_nil, List.length_replicate, put_len] at * <;> omega) | (exact cw_start hp1 hp3 hp4) | (exact cw_pot hp1 hp3 hp4) | (exact SmI.refl (by assumption)) | (exact SmI.mu (by assumption) (by assumption)) | (exact And.left (by assumption)) | ((have hS : SmI e.mine.Junctions x1.1 x3.1 x3.2.1 := (by assumption); have hl := hS.1.1; have hw0 := hp1.at (i := x2.2.2) (by omega); unfold AirIn at hw0; have hw1 := at2 hw0 (q := x3.2.2) (by omega); omega)) | ((have hS : SmI e.mine.Junctions x1.1 x3.1 x3.2.1 := (by assumption); have hl := hS.1.1; exact times_put hp1 hp3.2 hS (by omega) (by omega) (by assumption))))) rfl (fun h => Bool.noConfusion h) rfl <|
                    q_int .n (.t rfl) (.t rfl) rfl rfl <|
                    q_assign .n (.t rfl) rfl <|
                    Lex.nil) (by kernel_rfl) ?_
                refine run_seq ?_
                refine run_region (q_move .n (.t rfl) rfl <|
                    q_idxa_ow .n (.t rfl) (.c rfl) ae_128 (by decide) 1 rfl rfl <|
                    q_ld1_ow .n (.t rfl) rfl (.inr rfl) (fun _ => rfl) rfl ic_2 rfl <|
                    q_idx_ow .n (.t rfl) (.t rfl) sl_25 (fun _ => by first | omega | assumption | (simp only [List.length_append, List.length_cons, List.length_nil, List.length_replicate, put_len] at * <;> omega) | (exact cw_start hp1 hp3 hp4) | (exact cw_pot hp1 hp3 hp4) | (exact SmI.refl (by assumption)) | (exact SmI.mu (by assumption) (by assumption)) | (exact And.left (by assumption)) | ((have hS : SmI e.mine.Junctions x1.1 x3.1 x3.2.1 := (by assumption); have hl := hS.1.1; have hw0 := hp1.at (i := x2.2.2) (by omega); unfold AirIn at hw0; have hw1 := at2 hw0 (q := x3.2.2) (by omega); omega)) | ((have hS : SmI e.mine.Junctions x1.1 x3.1 x3.2.1 := (by assumption); have hl := hS.1.1; exact times_put hp1 hp3.2 hS (by omega) (by omega) (by assumption)))) rfl <|
                    q_ld1_row .n (.t rfl) rfl (fun _ => by first | omega | assumption | (simp only [List.length_append, List.length_cons, List.length_nil, List.length_replicate, put_len] at * <;> omega) | (exact cw_start hp1 hp3 hp4) | (exact cw_pot hp1 hp3 hp4) | (exact SmI.refl (by assumption)) | (exact SmI.mu (by assumption) (by assumption)) | (exact And.left (by assumption)) | ((have hS : SmI e.mine.Junctions x1.1 x3.1 x3.2.1 := (by assumption); have hl := hS.1.1; have hw0 := hp1.at (i := x2.2.2) (by omega); unfold AirIn at hw0; have hw1 := at2 hw0 (q := x3.2.2) (by omega); omega)) | ((have hS : SmI e.mine.Junctions x1.1 x3.1 x3.2.1 := (by assumption); have hl := hS.1.1; exact times_put hp1 hp3.2 hS (by omega) (by omega) (by assumption)))) rfl rfl rfl ic_2 rfl <|
                    q_int .n (.t rfl) (.c rfl) rfl rfl <|
                    q_move .n (.t rfl) rfl <|
                    q_move (.f rfl rfl) (.t rfl) rfl <|
                    q_move (.f rfl rfl) (.t rfl) rfl <|
                    q_idxa_ow (.f rfl rfl) (.t rfl) (.c rfl) ae_128 (by decide) 1 rfl rfl <|
                    q_ld1_ow (.f rfl rfl) (.u rfl id) rfl (.inr rfl) (fun _ => rfl) rfl ic_2 rfl <|
                    q_idx_ow (.f rfl rfl) (.u rfl id) (.u rfl id) sl_25 (fun hg => by simp only [Bool.and_eq_true, Bool.or_eq_true, Bool.not_eq_true', Bool.and_eq_false_iff, Bool.or_eq_false_iff, Bool.not_eq_false', decide_eq_true_eq, decide_eq_false_iff_not, beq_iff_eq, bne_iff_ne, beq_eq_false_iff_ne, bne_eq_false_iff_eq, Bool.true_and, ne_eq, Decidable.not_not, Int.not_lt, Int.not_le, Nat.not_lt, Nat.not_le, strB_nil, strB_nil', strB_nnil, strB_nnil'] at hg; first | omega | assumption | (simp only [List.length_append, List.length_cons, List.length_nil, List.length_replicate, put_len] at * <;> omega) | (exact cw_start hp1 hp3 hp4) | (exact cw_pot hp1 hp3 hp4) | (exact SmI.refl (by assumption)) | (exact SmI.mu (by assumption) (by assumption)) | (exact And.left (by assumption)) | ((have hS : SmI e.mine.Junctions x1.1 x3.1 x3.2.1 := (by assumption); have hl := hS.1.1; have hw0 := hp1.at (i := x2.2.2) (by omega); unfold AirIn at hw0; have hw1 := at2 hw0 (q := x3.2.2) (by omega); omega)) | ((have hS : SmI e.mine.Junctions x1.1 x3.1 x3.2.1 := (by assumption); have hl := hS.1.1; exact times_put hp1 hp3.2 hS (by omega) (by omega) (by assumption)))) rfl <|
                    q_ld1_row (.f rfl rfl) (.u rfl id) rfl (fun hg => by simp only [Bool.and_eq_true, Bool.or_eq_true, Bool.not_eq_true', Bool.and_eq_false_iff, Bool.or_eq_false_iff, Bool.not_eq_false', decide_eq_true_eq, decide_eq_false_iff_not, beq_iff_eq, bne_iff_ne, beq_eq_false_iff_ne, bne_eq_false_iff_eq, Bool.true_and, ne_eq, Decidable.not_not, Int.not_lt, Int.not_le, Nat.not_lt, Nat.not_le, strB_nil, strB_nil', strB_nnil, strB_nnil'] at hg; first | omega | assumption | (simp only [List.length_append, List.length_cons, List.length_nil, List.length_replicate, put_len] at * <;> omega) | (exact cw_start hp1 hp3 hp4) | (exact cw_pot hp1 hp3 hp4) | (exact SmI.refl (by assumption)) | (exact SmI.mu (by assumption) (by assumption)) | (exact And.left (by assumption)) | ((have hS : SmI e.mine.Junctions x1.1 x3.1 x3.2.1 := (by assumption); have hl := hS.1.1; have hw0 := hp1.at (i := x2.2.2) (by omega); unfold AirIn at hw0; have hw1 := at2 hw0 (q := x3.2.2) (by omega); omega)) | ((have hS : SmI e.mine.Junctions x1.1 x3.1 x3.2.1 := (by assumption); have hl := hS.1.1; exact times_put hp1 hp3.2 hS (by omega) (by omega) (by assumption)))) rfl rfl rfl ic_2 rfl <|
                    q_int (.f rfl rfl) (.u rfl id) (.u rfl id) rfl rfl <|
                    q_or .n (.t rfl) (.u rfl id) rfl <|
                    q_assign .n (.t rfl) rfl <|
                    Lex.nil) ?_
                refine run_seq ?_
                refine run_region (q_move .n (.t rfl) rfl <|
                    q_fld_ow .n (.t rfl) fo_78_2 rfl <|
                    q_ld1_ow .n (.t rfl) rfl (.inr rfl) (fun _ => rfl) rfl ic_2 rfl <|
                    q_int .n (.t rfl) (.t rfl) rfl rfl <|
                    q_move .n (.t rfl) rfl <|
                    q_move (.t rfl rfl) (.t rfl) rfl <|
                    q_idxa_ow (.t rfl rfl) (.t rfl) (.c rfl) ae_128 (by decide) 0 rfl rfl <|
                    q_ld1_ow (.t rfl rfl) (.u rfl id) rfl (.inr rfl) (fun _ => rfl) rfl ic_2 rfl <|
                    q_idx_ow (.t rfl rfl) (.u rfl id) (.u rfl id) sl_25 (fun hg => by simp only [Bool.and_eq_true, Bool.or_eq_true, Bool.not_eq_true', Bool.and_eq_false_iff, Bool.or_eq_false_iff, Bool.not_eq_false', decide_eq_true_eq, decide_eq_false_iff_not, beq_iff_eq, bne_iff_ne, beq_eq_false_iff_ne, bne_eq_false_iff_eq, Bool.true_and, ne_eq, Decidable.not_not, Int.not_lt, Int.not_le, Nat.not_lt, Nat.not_le, strB_nil, strB_nil', strB_nnil, strB_nnil'] at hg; first | omega | assumption | (simp only [List.length_append, List.length_cons, List.length_nil, List.length_replicate, put_len] at * <;> omega) | (exact cw_start hp1 hp3 hp4) | (exact cw_pot hp1 hp3 hp4) | (exact SmI.refl (by assumption)) | (exact SmI.mu (by assumption) (by assumption)) | (exact And.left (by assumption)) | ((have hS : SmI e.mine.Junctions x1.1 x3.1 x3.2.1 := (by assumption); have hl := hS.1.1; have hw0 := hp1.at (i := x2.2.2) (by omega); unfold AirIn at hw0; have hw1 := at2 hw0 (q := x3.2.2) (by omega); omega)) | ((have hS : SmI e.mine.Junctions x1.1 x3.1 x3.2.1 := (by assumption); have hl := hS.1.1; exact times_put hp1 hp3.2 hS (by omega) (by omega) (by assumption)))) rfl <|
                    q_ld1_row (.t rfl rfl) (.u rfl id) rfl (fun hg => by simp only [Bool.and_eq_true, Bool.or_eq_true, Bool.not_eq_true', Bool.and_eq_false_iff, Bool.or_eq_false_iff, Bool.not_eq_false', decide_eq_true_eq, decide_eq_false_iff_not, beq_iff_eq, bne_iff_ne, beq_eq_false_iff_ne, bne_eq_false_iff_eq, Bool.true_and, ne_eq, Decidable.not_not, Int.not_lt, Int.not_le, Nat.not_lt, Nat.not_le, strB_nil, strB_nil', strB_nnil, strB_nnil'] at hg; first | omega | assumption | (simp only [List.length_append, List.length_cons, List.length_nil, List.length_replicate, put_len] at * <;> omega) | (exact cw_start hp1 hp3 hp4) | (exact cw_pot hp1 hp3 hp4) | (exact SmI.refl (by assumption)) | (exact SmI.mu (by assumption) (by assumption)) | (exact And.left (by assumption)) | ((have hS : SmI e.mine.Junctions x1.1 x3.1 x3.2.1 := (by assumption); have hl := hS.1.1; have hw0 := hp1.at (i := x2.2.2) (by omega); unfold AirIn at hw0; have hw1 := at2 hw0 (q := x3.2.2) (by omega); omega)) | ((have hS : SmI e.mine.Junctions x1.1 x3.1 x3.2.1 := (by assumption); have hl := hS.1.1; exact times_put hp1 hp3.2 hS (by omega) (by omega) (by assumption)))) rfl rfl rfl ic_2 rfl <|
                    q_int (.t rfl rfl) (.u rfl id) (.c rfl) rfl rfl <|
                    q_and .n (.t rfl) (.u rfl id) rfl <|
                    q_move .n (.t rfl) rfl <|
                    q_move (.t rfl rfl) (.t rfl) rfl <|
                    q_and .n (.t rfl) (.u rfl id) rfl <|
                    q_move .n (.t rfl) rfl <|
                    q_ldN_ow (.t rfl rfl) (.t rfl) rfl (.inr rfl) ag_78 (fun _ => rfl) rfl rfl <|
                    q_idxa_ow (.t rfl rfl) (.t rfl) (.c rfl) ae_128 (by decide) 1 rfl rfl <|
                    q_ld1_ow (.t rfl rfl) (.u rfl id) rfl (.inr rfl) (fun _ => rfl) rfl ic_2 rfl <|
                    q_move (.t rfl rfl) (.t rfl) rfl <|
                    q_call0 (full := false) (.t rfl rfl) .f en_84 (.cons (.u rfl id) (.cons (.u rfl id) (.cons (.u rfl id) .nil))) (.cons (.sts rfl) (.cons (.b (.a (.same rfl))) (.cons (.b (.a (.same rfl))) .nil))) (fun hg => c_impl_escape_mayBe e (at' ([(at' e.mine.Airways x2.2.2).To, (at' e.mine.Airways x2.2.2).From] : List Int) x3.2.2) (IntKind.wrap .i64 ((at' x3.1 (at' ([(at' e.mine.Airways x2.2.2).From, (at' e.mine.Airways x2.2.2).To] : List Int) x3.2.2)) + (m_impl_Airway_walkTime (at' e.mine.Airways x2.2.2) c_.Speed))) (by simp only [Bool.and_eq_true, Bool.or_eq_true, Bool.not_eq_true', Bool.and_eq_false_iff, Bool.or_eq_false_iff, Bool.not_eq_false', decide_eq_true_eq, decide_eq_false_iff_not, beq_iff_eq, bne_iff_ne, beq_eq_false_iff_ne, bne_eq_false_iff_eq, Bool.true_and, ne_eq, Decidable.not_not, Int.not_lt, Int.not_le, Nat.not_lt, Nat.not_le, strB_nil, strB_nil', strB_nnil, strB_nnil'] at hg; first | omega | assumption | (simp only [List.length_append, List.length_cons, List.length_nil, List.length_replicate, put_len] at * <;> omega) | (exact cw_start hp1 hp3 hp4) | (exact cw_pot hp1 hp3 hp4) | (exact SmI.refl (by assumption)) | (exact SmI.mu (by assumption) (by assumption)) | (exact And.left (by assumption)) | ((have hS : SmI e.mine.Junctions x1.1 x3.1 x3.2.1 := (by assumption); have hl := hS.1.1; have hw0 := hp1.at (i := x2.2.2) (by omega); unfold AirIn at hw0; have hw1 := at2 hw0 (q := x3.2.2) (by omega); omega)) | ((have hS : SmI e.mine.Junctions x1.1 x3.1 x3.2.1 := (by assumption); have hl := hS.1.1; exact times_put hp1 hp3.2 hS (by omega) (by omega) (by assumption))))) rfl (fun h => Bool.noConfusion h) rfl <|
                    q_and .n (.t rfl) (.u rfl id) rfl <|
                    Lex.nil) ?_
                refine run_cond (.t rfl) rfl (fun h13 => ?_) (fun h13 => ?_)
                · try simp only [Bool.and_eq_true, Bool.or_eq_true, Bool.not_eq_true', Bool.and_eq_false_iff, Bool.or_eq_false_iff, Bool.not_eq_false', decide_eq_true_eq, decide_eq_false_iff_not, beq_iff_eq, bne_iff_ne, beq_eq_false_iff_ne, bne_eq_false_iff_eq, Bool.true_and, ne_eq, Decidable.not_not, Int.not_lt, Int.not_le, Nat.not_lt, Nat.not_le, strB_nil, strB_nil', strB_nnil, strB_nnil'] at h13
                  refine run_region (q_move .n (.t rfl) rfl <|
                      q_idxa_ow .n (.t rfl) (.c rfl) ae_128 (by decide) 1 rfl rfl <|
                      q_ld1_ow .n (.t rfl) rfl (.inr rfl) (fun _ => rfl) rfl ic_2 rfl <|
                      q_move .n (.t rfl) rfl <|
                      q_idx_ow .n (.t rfl) (.t rfl) sl_25 (fun _ => by first | omega | assumption | (simp only [List.length_append, List.length_cons, List.length_nil, List.length_replicate, put_len] at * <;> omega) | (exact cw_start hp1 hp3 hp4) | (exact cw_pot hp1 hp3 hp4) | (exact SmI.refl (by assumption)) | (exact SmI.mu (by assumption) (by assumption)) | (exact And.left (by assumption)) | ((have hS : SmI e.mine.Junctions x1.1 x3.1 x3.2.1 := (by assumption); have hl := hS.1.1; have hw0 := hp1.at (i := x2.2.2) (by omega); unfold AirIn at hw0; have hw1 := at2 hw0 (q := x3.2.2) (by omega); omega)) | ((have hS : SmI e.mine.Junctions x1.1 x3.1 x3.2.1 := (by assumption); have hl := hS.1.1; exact times_put hp1 hp3.2 hS (by omega) (by omega) (by assumption)))) rfl <|
                      q_st_rowm (IntKind.wrap .i64 ((at' x3.1 (at' ([(at' e.mine.Airways x2.2.2).From, (at' e.mine.Airways x2.2.2).To] : List Int) x3.2.2)) + (m_impl_Airway_walkTime (at' e.mine.Airways x2.2.2) c_.Speed))) .n rfl (.t rfl) (.t rfl) rfl ts_2 (by first | omega | assumption | (simp only [List.length_append, List.length_cons, List.length_nil, List.length_replicate, put_len] at * <;> omega) | (exact cw_start hp1 hp3 hp4) | (exact cw_pot hp1 hp3 hp4) | (exact SmI.refl (by assumption)) | (exact SmI.mu (by assumption) (by assumption)) | (exact And.left (by assumption)) | ((have hS : SmI e.mine.Junctions x1.1 x3.1 x3.2.1 := (by assumption); have hl := hS.1.1; have hw0 := hp1.at (i := x2.2.2) (by omega); unfold AirIn at hw0; have hw1 := at2 hw0 (q := x3.2.2) (by omega); omega)) | ((have hS : SmI e.mine.Junctions x1.1 x3.1 x3.2.1 := (by assumption); have hl := hS.1.1; exact times_put hp1 hp3.2 hS (by omega) (by omega) (by assumption)))) rfl rfl <|
                      q_assign .n (.c rfl) rfl <|
                      Lex.nil) ?_
                  refine run_endB ?_
                  refine run_region (q_add .n (.t rfl) (.c rfl) (fun _ => by first | omega | assumption | (simp only [List.length_append, List.length_cons, List.length_nil, List.length_replicate, put_len] at * <;> omega) | (exact cw_start hp1 hp3 hp4) | (exact cw_pot hp1 hp3 hp4) | (exact SmI.refl (by assumption)) | (exact SmI.mu (by assumption) (by assumption)) | (exact And.left (by assumption)) | ((have hS : SmI e.mine.Junctions x1.1 x3.1 x3.2.1 := (by assumption); have hl := hS.1.1; have hw0 := hp1.at (i := x2.2.2) (by omega); unfold AirIn at hw0; have hw1 := at2 hw0 (q := x3.2.2) (by omega); omega)) | ((have hS : SmI e.mine.Junctions x1.1 x3.1 x3.2.1 := (by assumption); have hl := hS.1.1; exact times_put hp1 hp3.2 hS (by omega) (by omega) (by assumption)))) rfl <|
                      q_move .n (.t rfl) rfl <|
                      Lex.nil) ?_
                  exact run_again (put' x3.1 (at' ([(at' e.mine.Airways x2.2.2).To, (at' e.mine.Airways x2.2.2).From] : List Int) x3.2.2) (IntKind.wrap .i64 ((at' x3.1 (at' ([(at' e.mine.Airways x2.2.2).From, (at' e.mine.Airways x2.2.2).To] : List Int) x3.2.2)) + (m_impl_Airway_walkTime (at' e.mine.Airways x2.2.2) c_.Speed))), true, x3.2.2 + 1) ⟨by first | omega | assumption | (simp only [List.length_append, List.length_cons, List.length_nil, List.length_replicate, put_len] at * <;> omega) | (exact cw_start hp1 hp3 hp4) | (exact cw_pot hp1 hp3 hp4) | (exact SmI.refl (by assumption)) | (exact SmI.mu (by assumption) (by assumption)) | (exact And.left (by assumption)) | ((have hS : SmI e.mine.Junctions x1.1 x3.1 x3.2.1 := (by assumption); have hl := hS.1.1; have hw0 := hp1.at (i := x2.2.2) (by omega); unfold AirIn at hw0; have hw1 := at2 hw0 (q := x3.2.2) (by omega); omega)) | ((have hS : SmI e.mine.Junctions x1.1 x3.1 x3.2.1 := (by assumption); have hl := hS.1.1; exact times_put hp1 hp3.2 hS (by omega) (by omega) (by assumption))), by first | omega | assumption | (simp only [List.length_append, List.length_cons, List.length_nil, List.length_replicate, put_len] at * <;> omega) | (exact cw_start hp1 hp3 hp4) | (exact cw_pot hp1 hp3 hp4) | (exact SmI.refl (by assumption)) | (exact SmI.mu (by assumption) (by assumption)) | (exact And.left (by assumption)) | ((have hS : SmI e.mine.Junctions x1.1 x3.1 x3.2.1 := (by assumption); have hl := hS.1.1; have hw0 := hp1.at (i := x2.2.2) (by omega); unfold AirIn at hw0; have hw1 := at2 hw0 (q := x3.2.2) (by omega); omega)) | ((have hS : SmI e.mine.Junctions x1.1 x3.1 x3.2.1 := (by assumption); have hl := hS.1.1; exact times_put hp1 hp3.2 hS (by omega) (by omega) (by assumption))), by first | omega | assumption | (simp only [List.length_append, List.length_cons, List.length_nil, List.length_replicate, put_len] at * <;> omega) | (exact cw_start hp1 hp3 hp4) | (exact cw_pot hp1 hp3 hp4) | (exact SmI.refl (by assumption)) | (exact SmI.mu (by assumption) (by assumption)) | (exact And.left (by assumption)) | ((have hS : SmI e.mine.Junctions x1.1 x3.1 x3.2.1 := (by assumption); have hl := hS.1.1; have hw0 := hp1.at (i := x2.2.2) (by omega); unfold AirIn at hw0; have hw1 := at2 hw0 (q := x3.2.2) (by omega); omega)) | ((have hS : SmI e.mine.Junctions x1.1 x3.1 x3.2.1 := (by assumption); have hl := hS.1.1; exact times_put hp1 hp3.2 hS (by omega) (by omega) (by assumption))), by first | omega | assumption | (simp only [List.length_append, List.length_cons, List.length_nil, List.length_replicate, put_len] at * <;> omega) | (exact cw_start hp1 hp3 hp4) | (exact cw_pot hp1 hp3 hp4) | (exact SmI.refl (by assumption)) | (exact SmI.mu (by assumption) (by assumption)) | (exact And.left (by assumption)) | ((have hS : SmI e.mine.Junctions x1.1 x3.1 x3.2.1 := (by assumption); have hl := hS.1.1; have hw0 := hp1.at (i := x2.2.2) (by omega); unfold AirIn at hw0; have hw1 := at2 hw0 (q := x3.2.2) (by omega); omega)) | ((have hS : SmI e.mine.Junctions x1.1 x3.1 x3.2.1 := (by assumption); have hl := hS.1.1; exact times_put hp1 hp3.2 hS (by omega) (by omega) (by assumption)))⟩ (by first | omega | assumption | (simp only [List.length_append, List.length_cons, List.length_nil, List.length_replicate, put_len] at * <;> omega) | (exact cw_start hp1 hp3 hp4) | (exact cw_pot hp1 hp3 hp4) | (exact SmI.refl (by assumption)) | (exact SmI.mu (by assumption) (by assumption)) | (exact And.left (by assumption)) | ((have hS : SmI e.mine.Junctions x1.1 x3.1 x3.2.1 := (by assumption); have hl := hS.1.1; have hw0 := hp1.at (i := x2.2.2) (by omega); unfold AirIn at hw0; have hw1 := at2 hw0 (q := x3.2.2) (by omega); omega)) | ((have hS : SmI e.mine.Junctions x1.1 x3.1 x3.2.1 := (by assumption); have hl := hS.1.1; exact times_put hp1 hp3.2 hS (by omega) (by omega) (by assumption)))) (sub_of [] ⟨rfl, rfl, os_len rfl (by first | (simp only [put_len]; done) | (first | omega | assumption | (simp only [List.length_append, List.length_cons, List.length_nil, List.length_replicate, put_len] at * <;> omega) | (exact cw_start hp1 hp3 hp4) | (exact cw_pot hp1 hp3 hp4) | (exact SmI.refl (by assumption)) | (exact SmI.mu (by assumption) (by assumption)) | (exact And.left (by assumption)) | ((have hS : SmI e.mine.Junctions x1.1 x3.1 x3.2.1 := (by assumption); have hl := hS.1.1; have hw0 := hp1.at (i := x2.2.2) (by omega); unfold AirIn at hw0; have hw1 := at2 hw0 (q := x3.2.2) (by omega); omega)) | ((have hS : SmI e.mine.Junctions x1.1 x3.1 x3.2.1 := (by assumption); have hl := hS.1.1; exact times_put hp1 hp3.2 hS (by omega) (by omega) (by assumption))))), rfl, rfl, rfl, rfl, rfl, rfl, rfl, rfl, trivial⟩ ⟨rfl, rfl, rfl, rfl, trivial⟩ rfl)
                · try simp only [Bool.and_eq_true, Bool.or_eq_true, Bool.not_eq_true', Bool.and_eq_false_iff, Bool.or_eq_false_iff, Bool.not_eq_false', decide_eq_true_eq, decide_eq_false_iff_not, beq_iff_eq, bne_iff_ne, beq_eq_false_iff_ne, bne_eq_false_iff_eq, Bool.true_and, ne_eq, Decidable.not_not, Int.not_lt, Int.not_le, Nat.not_lt, Nat.not_le, strB_nil, strB_nil', strB_nnil, strB_nnil'] at h13
                  refine run_skip ?_
                  refine run_endB ?_
                  refine run_region (q_add .n (.t rfl) (.c rfl) (fun _ => by first | omega | assumption | (simp only [List.length_append, List.length_cons, List.length_nil, List.length_replicate, put_len] at * <;> omega) | (exact cw_start hp1 hp3 hp4) | (exact cw_pot hp1 hp3 hp4) | (exact SmI.refl (by assumption)) | (exact SmI.mu (by assumption) (by assumption)) | (exact And.left (by assumption)) | ((have hS : SmI e.mine.Junctions x1.1 x3.1 x3.2.1 := (by assumption); have hl := hS.1.1; have hw0 := hp1.at (i := x2.2.2) (by omega); unfold AirIn at hw0; have hw1 := at2 hw0 (q := x3.2.2) (by omega); omega)) | ((have hS : SmI e.mine.Junctions x1.1 x3.1 x3.2.1 := (by assumption); have hl := hS.1.1; exact times_put hp1 hp3.2 hS (by omega) (by omega) (by assumption)))) rfl <|
                      q_move .n (.t rfl) rfl <|
                      Lex.nil) ?_
                  exact run_again (x3.1, x3.2.1, x3.2.2 + 1) ⟨by first | omega | assumption | (simp only [List.length_append, List.length_cons, List.length_nil, List.length_replicate, put_len] at * <;> omega) | (exact cw_start hp1 hp3 hp4) | (exact cw_pot hp1 hp3 hp4) | (exact SmI.refl (by assumption)) | (exact SmI.mu (by assumption) (by assumption)) | (exact And.left (by assumption)) | ((have hS : SmI e.mine.Junctions x1.1 x3.1 x3.2.1 := (by assumption); have hl := hS.1.1; have hw0 := hp1.at (i := x2.2.2) (by omega); unfold AirIn at hw0; have hw1 := at2 hw0 (q := x3.2.2) (by omega); omega)) | ((have hS : SmI e.mine.Junctions x1.1 x3.1 x3.2.1 := (by assumption); have hl := hS.1.1; exact times_put hp1 hp3.2 hS (by omega) (by omega) (by assumption))), by first | omega | assumption | (simp only [List.length_append, List.length_cons, List.length_nil, List.length_replicate, put_len] at * <;> omega) | (exact cw_start hp1 hp3 hp4) | (exact cw_pot hp1 hp3 hp4) | (exact SmI.refl (by assumption)) | (exact SmI.mu (by assumption) (by assumption)) | (exact And.left (by assumption)) | ((have hS : SmI e.mine.Junctions x1.1 x3.1 x3.2.1 := (by assumption); have hl := hS.1.1; have hw0 := hp1.at (i := x2.2.2) (by omega); unfold AirIn at hw0; have hw1 := at2 hw0 (q := x3.2.2) (by omega); omega)) | ((have hS : SmI e.mine.Junctions x1.1 x3.1 x3.2.1 := (by assumption); have hl := hS.1.1; exact times_put hp1 hp3.2 hS (by omega) (by omega) (by assumption))), by first | omega | assumption | (simp only [List.length_append, List.length_cons, List.length_nil, List.length_replicate, put_len] at * <;> omega) | (exact cw_start hp1 hp3 hp4) | (exact cw_pot hp1 hp3 hp4) | (exact SmI.refl (by assumption)) | (exact SmI.mu (by assumption) (by assumption)) | (exact And.left (by assumption)) | ((have hS : SmI e.mine.Junctions x1.1 x3.1 x3.2.1 := (by assumption); have hl := hS.1.1; have hw0 := hp1.at (i := x2.2.2) (by omega); unfold AirIn at hw0; have hw1 := at2 hw0 (q := x3.2.2) (by omega); omega)) | ((have hS : SmI e.mine.Junctions x1.1 x3.1 x3.2.1 := (by assumption); have hl := hS.1.1; exact times_put hp1 hp3.2 hS (by omega) (by omega) (by assumption))), by first | omega | assumption | (simp only [List.length_append, List.length_cons, List.length_nil, List.length_replicate, put_len] at * <;> omega) | (exact cw_start hp1 hp3 hp4) | (exact cw_pot hp1 hp3 hp4) | (exact SmI.refl (by assumption)) | (exact SmI.mu (by assumption) (by assumption)) | (exact And.left (by assumption)) | ((have hS : SmI e.mine.Junctions x1.1 x3.1 x3.2.1 := (by assumption); have hl := hS.1.1; have hw0 := hp1.at (i := x2.2.2) (by omega); unfold AirIn at hw0; have hw1 := at2 hw0 (q := x3.2.2) (by omega); omega)) | ((have hS : SmI e.mine.Junctions x1.1 x3.1 x3.2.1 := (by assumption); have hl := hS.1.1; exact times_put hp1 hp3.2 hS (by omega) (by omega) (by assumption)))⟩ (by first | omega | assumption | (simp only [List.length_append, List.length_cons, List.length_nil, List.length_replicate, put_len] at * <;> omega) | (exact cw_start hp1 hp3 hp4) | (exact cw_pot hp1 hp3 hp4) | (exact SmI.refl (by assumption)) | (exact SmI.mu (by assumption) (by assumption)) | (exact And.left (by assumption)) | ((have hS : SmI e.mine.Junctions x1.1 x3.1 x3.2.1 := (by assumption); have hl := hS.1.1; have hw0 := hp1.at (i := x2.2.2) (by omega); unfold AirIn at hw0; have hw1 := at2 hw0 (q := x3.2.2) (by omega); omega)) | ((have hS : SmI e.mine.Junctions x1.1 x3.1 x3.2.1 := (by assumption); have hl := hS.1.1; exact times_put hp1 hp3.2 hS (by omega) (by omega) (by assumption)))) (sub_of [] ⟨rfl, rfl, rfl, rfl, rfl, rfl, rfl, rfl, rfl, rfl, rfl, trivial⟩ ⟨rfl, rfl, rfl, rfl, trivial⟩ rfl)
              · try simp only [Bool.and_eq_true, Bool.or_eq_true, Bool.not_eq_true', Bool.and_eq_false_iff, Bool.or_eq_false_iff, Bool.not_eq_false', decide_eq_true_eq, decide_eq_false_iff_not, beq_iff_eq, bne_iff_ne, beq_eq_false_iff_ne, bne_eq_false_iff_eq, Bool.true_and, ne_eq, Decidable.not_not, Int.not_lt, Int.not_le, Nat.not_lt, Nat.not_le, strB_nil, strB_nil', strB_nnil, strB_nnil'] at h12
                refine run_exit rfl ?_
                exact run_cont hk10 (x3.1, x3.2.1, x3.2.2) ⟨by first | omega | assumption | (simp only [List.length_append, List.length_cons, List.length_nil, List.length_replicate, put_len] at * <;> omega) | (exact cw_start hp1 hp3 hp4) | (exact cw_pot hp1 hp3 hp4) | (exact SmI.refl (by assumption)) | (exact SmI.mu (by assumption) (by assumption)) | (exact And.left (by assumption)) | ((have hS : SmI e.mine.Junctions x1.1 x3.1 x3.2.1 := (by assumption); have hl := hS.1.1; have hw0 := hp1.at (i := x2.2.2) (by omega); unfold AirIn at hw0; have hw1 := at2 hw0 (q := x3.2.2) (by omega); omega)) | ((have hS : SmI e.mine.Junctions x1.1 x3.1 x3.2.1 := (by assumption); have hl := hS.1.1; exact times_put hp1 hp3.2 hS (by omega) (by omega) (by assumption))), by first | omega | assumption | (simp only [List.length_append, List.length_cons, List.length_nil, List.length_replicate, put_len] at * <;> omega) | (exact cw_start hp1 hp3 hp4) | (exact cw_pot hp1 hp3 hp4) | (exact SmI.refl (by assumption)) | (exact SmI.mu (by assumption) (by assumption)) | (exact And.left (by assumption)) | ((have hS : SmI e.mine.Junctions x1.1 x3.1 x3.2.1 := (by assumption); have hl := hS.1.1; have hw0 := hp1.at (i := x2.2.2) (by omega); unfold AirIn at hw0; have hw1 := at2 hw0 (q := x3.2.2) (by omega); omega)) | ((have hS : SmI e.mine.Junctions x1.1 x3.1 x3.2.1 := (by assumption); have hl := hS.1.1; exact times_put hp1 hp3.2 hS (by omega) (by omega) (by assumption))), by first | omega | assumption | (simp only [List.length_append, List.length_cons, List.length_nil, List.length_replicate, put_len] at * <;> omega) | (exact cw_start hp1 hp3 hp4) | (exact cw_pot hp1 hp3 hp4) | (exact SmI.refl (by assumption)) | (exact SmI.mu (by assumption) (by assumption)) | (exact And.left (by assumption)) | ((have hS : SmI e.mine.Junctions x1.1 x3.1 x3.2.1 := (by assumption); have hl := hS.1.1; have hw0 := hp1.at (i := x2.2.2) (by omega); unfold AirIn at hw0; have hw1 := at2 hw0 (q := x3.2.2) (by omega); omega)) | ((have hS : SmI e.mine.Junctions x1.1 x3.1 x3.2.1 := (by assumption); have hl := hS.1.1; exact times_put hp1 hp3.2 hS (by omega) (by omega) (by assumption))), by first | omega | assumption | (simp only [List.length_append, List.length_cons, List.length_nil, List.length_replicate, put_len] at * <;> omega) | (exact cw_start hp1 hp3 hp4) | (exact cw_pot hp1 hp3 hp4) | (exact SmI.refl (by assumption)) | (exact SmI.mu (by assumption) (by assumption)) | (exact And.left (by assumption)) | ((have hS : SmI e.mine.Junctions x1.1 x3.1 x3.2.1 := (by assumption); have hl := hS.1.1; have hw0 := hp1.at (i := x2.2.2) (by omega); unfold AirIn at hw0; have hw1 := at2 hw0 (q := x3.2.2) (by omega); omega)) | ((have hS : SmI e.mine.Junctions x1.1 x3.1 x3.2.1 := (by assumption); have hl := hS.1.1; exact times_put hp1 hp3.2 hS (by omega) (by omega) (by assumption))), by first | omega | assumption | (simp only [List.length_append, List.length_cons, List.length_nil, List.length_replicate, put_len] at * <;> omega) | (exact cw_start hp1 hp3 hp4) | (exact cw_pot hp1 hp3 hp4) | (exact SmI.refl (by assumption)) | (exact SmI.mu (by assumption) (by assumption)) | (exact And.left (by assumption)) | ((have hS : SmI e.mine.Junctions x1.1 x3.1 x3.2.1 := (by assumption); have hl := hS.1.1; have hw0 := hp1.at (i := x2.2.2) (by omega); unfold AirIn at hw0; have hw1 := at2 hw0 (q := x3.2.2) (by omega); omega)) | ((have hS : SmI e.mine.Junctions x1.1 x3.1 x3.2.1 := (by assumption); have hl := hS.1.1; exact times_put hp1 hp3.2 hS (by omega) (by omega) (by assumption)))⟩ (sub_of [] ⟨rfl, rfl, rfl, rfl, rfl, rfl, rfl, trivial⟩ ⟨rfl, rfl, rfl, trivial⟩ rfl)
          · try simp only [Bool.and_eq_true, Bool.or_eq_true, Bool.not_eq_true', Bool.and_eq_false_iff, Bool.or_eq_false_iff, Bool.not_eq_false', decide_eq_true_eq, decide_eq_false_iff_not, beq_iff_eq, bne_iff_ne, beq_eq_false_iff_ne, bne_eq_false_iff_eq, Bool.true_and, ne_eq, Decidable.not_not, Int.not_lt, Int.not_le, Nat.not_lt, Nat.not_le, strB_nil, strB_nil', strB_nnil, strB_nnil'] at h9
            refine run_exit rfl ?_
            exact run_cont hk7 (x2.1, x2.2.1, x2.2.2) ⟨by first | omega | assumption | (simp only [List.length_append, List.length_cons, List.length_nil, List.length_replicate, put_len] at * <;> omega) | (exact cw_start hp1 hp3 hp4) | (exact cw_pot hp1 hp3 hp4) | (exact SmI.refl (by assumption)) | (exact SmI.mu (by assumption) (by assumption)) | (exact And.left (by assumption)) | ((have hS : SmI e.mine.Junctions x1.1 x3.1 x3.2.1 := (by assumption); have hl := hS.1.1; have hw0 := hp1.at (i := x2.2.2) (by omega); unfold AirIn at hw0; have hw1 := at2 hw0 (q := x3.2.2) (by omega); omega)) | ((have hS : SmI e.mine.Junctions x1.1 x3.1 x3.2.1 := (by assumption); have hl := hS.1.1; exact times_put hp1 hp3.2 hS (by omega) (by omega) (by assumption))), by first | omega | assumption | (simp only [List.length_append, List.length_cons, List.length_nil, List.length_replicate, put_len] at * <;> omega) | (exact cw_start hp1 hp3 hp4) | (exact cw_pot hp1 hp3 hp4) | (exact SmI.refl (by assumption)) | (exact SmI.mu (by assumption) (by assumption)) | (exact And.left (by assumption)) | ((have hS : SmI e.mine.Junctions x1.1 x3.1 x3.2.1 := (by assumption); have hl := hS.1.1; have hw0 := hp1.at (i := x2.2.2) (by omega); unfold AirIn at hw0; have hw1 := at2 hw0 (q := x3.2.2) (by omega); omega)) | ((have hS : SmI e.mine.Junctions x1.1 x3.1 x3.2.1 := (by assumption); have hl := hS.1.1; exact times_put hp1 hp3.2 hS (by omega) (by omega) (by assumption))), by first | omega | assumption | (simp only [List.length_append, List.length_cons, List.length_nil, List.length_replicate, put_len] at * <;> omega) | (exact cw_start hp1 hp3 hp4) | (exact cw_pot hp1 hp3 hp4) | (exact SmI.refl (by assumption)) | (exact SmI.mu (by assumption) (by assumption)) | (exact And.left (by assumption)) | ((have hS : SmI e.mine.Junctions x1.1 x3.1 x3.2.1 := (by assumption); have hl := hS.1.1; have hw0 := hp1.at (i := x2.2.2) (by omega); unfold AirIn at hw0; have hw1 := at2 hw0 (q := x3.2.2) (by omega); omega)) | ((have hS : SmI e.mine.Junctions x1.1 x3.1 x3.2.1 := (by assumption); have hl := hS.1.1; exact times_put hp1 hp3.2 hS (by omega) (by omega) (by assumption))), by first | omega | assumption | (simp only [List.length_append, List.length_cons, List.length_nil, List.length_replicate, put_len] at * <;> omega) | (exact cw_start hp1 hp3 hp4) | (exact cw_pot hp1 hp3 hp4) | (exact SmI.refl (by assumption)) | (exact SmI.mu (by assumption) (by assumption)) | (exact And.left (by assumption)) | ((have hS : SmI e.mine.Junctions x1.1 x3.1 x3.2.1 := (by assumption); have hl := hS.1.1; have hw0 := hp1.at (i := x2.2.2) (by omega); unfold AirIn at hw0; have hw1 := at2 hw0 (q := x3.2.2) (by omega); omega)) | ((have hS : SmI e.mine.Junctions x1.1 x3.1 x3.2.1 := (by assumption); have hl := hS.1.1; exact times_put hp1 hp3.2 hS (by omega) (by omega) (by assumption)))⟩ (sub_of [] ⟨rfl, rfl, rfl, rfl, trivial⟩ ⟨rfl, rfl, rfl, trivial⟩ rfl)
      · try simp only [Bool.and_eq_true, Bool.or_eq_true, Bool.not_eq_true', Bool.and_eq_false_iff, Bool.or_eq_false_iff, Bool.not_eq_false', decide_eq_true_eq, decide_eq_false_iff_not, beq_iff_eq, bne_iff_ne, beq_eq_false_iff_ne, bne_eq_false_iff_eq, Bool.true_and, ne_eq, Decidable.not_not, Int.not_lt, Int.not_le, Nat.not_lt, Nat.not_le, strB_nil, strB_nil', strB_nnil, strB_nnil'] at h6
        refine run_exit rfl ?_
        exact run_cont hk4 (x1.1, x1.2) (by first | omega | assumption | (simp only [List.length_append, List.length_cons, List.length_nil, List.length_replicate, put_len] at * <;> omega) | (exact cw_start hp1 hp3 hp4) | (exact cw_pot hp1 hp3 hp4) | (exact SmI.refl (by assumption)) | (exact SmI.mu (by assumption) (by assumption)) | (exact And.left (by assumption)) | ((have hS : SmI e.mine.Junctions x1.1 x3.1 x3.2.1 := (by assumption); have hl := hS.1.1; have hw0 := hp1.at (i := x2.2.2) (by omega); unfold AirIn at hw0; have hw1 := at2 hw0 (q := x3.2.2) (by omega); omega)) | ((have hS : SmI e.mine.Junctions x1.1 x3.1 x3.2.1 := (by assumption); have hl := hS.1.1; exact times_put hp1 hp3.2 hS (by omega) (by omega) (by assumption)))) (sub_of [] ⟨rfl, trivial⟩ ⟨rfl, trivial⟩ rfl)

/-! ### impl_firstReached -/
theorem c_impl_firstReached (times : List Int) (junctions : List Int) (hp1 : ∀ y ∈ junctions, 0 ≤ y ∧ y < times.length) : Con Try.prog 54 [.sl 1 (times.map (V.int .i64)), .sl 1 (junctions.map (V.int .i64))] [] (.int .i64 (m_impl_firstReached times junctions)) ([]) := by
  refine con_intro (out := fun r : Int => ((.int .i64 r : V), ([] : List (Nat × Option O)))) (r := (m_impl_firstReached times junctions)) Try.func54 rfl Try.ntmps54 rfl ?_
  refine run_fact (t := 0) rfl fun hl => ?_
  have l1 := hl; clear hl; simp only [List.length_map] at l1
  refine run_fact (t := 1) rfl fun hl => ?_
  have l2 := hl; clear hl; simp only [List.length_map] at l2
  refine run_seq ?_
  refine run_region (q_assign .n (.c rfl) rfl <|
      Lex.nil) ?_
  refine run_seq ?_
  refine run_region (q_assign .n (.c rfl) rfl <|
      Lex.nil) ?_
  refine run_seq ?_
  refine run_seq ?_
  refine run_region (q_move .n (.t rfl) rfl <|
      q_len .n (.t rfl) rfl len_map ss_25 rfl <|
      q_move .n (.c rfl) rfl <|
      Lex.nil) ?_
  refine run_block ?_
  refine run_LOOP (m_impl_firstReached_b1 times junctions) _ _ _ rfl (fun (x1 : Int × Int) => 0 ≤ x1.2 ∧ x1.2 ≤ (junctions.length : Int) ∧ (x1.1 = -1 ∨ (0 ≤ x1.1 ∧ x1.1 < times.length))) (fun x1 => 0 ≤ x1.2 ∧ x1.2 ≤ (junctions.length : Int) ∧ (x1.1 = -1 ∨ (0 ≤ x1.1 ∧ x1.1 < times.length)) ∧ (junctions.length : Int) ≤ x1.2) (fun x1 => ((junctions.length : Int) - x1.2 : Int).toNat) (fun x1 => ⟨[(0, some (true, .sl 1 (times.map (V.int .i64)))), (5, some (true, .int .i64 x1.1)), (9, some (true, .sl 1 (junctions.map (V.int .i64)))), (10, some (true, .int .i64 (junctions.length : Int))), (11, some (true, .int .i64 x1.2))], []⟩) (fun x1 => ⟨[(5, some (true, .int .i64 x1.1))], []⟩) ⟨by first | omega | assumption | (simp only [List.length_append, List.length_cons, List.length_nil, List.length_replicate, put_len] at * <;> omega) | ((have hb := at_all (i := x1.2) hp1 (by omega); omega)), by first | omega | assumption | (simp only [List.length_append, List.length_cons, List.length_nil, List.length_replicate, put_len] at * <;> omega) | ((have hb := at_all (i := x1.2) hp1 (by omega); omega)), by first | omega | assumption | (simp only [List.length_append, List.length_cons, List.length_nil, List.length_replicate, put_len] at * <;> omega) | ((have hb := at_all (i := x1.2) hp1 (by omega); omega))⟩ (by first | omega | assumption | (simp only [List.length_append, List.length_cons, List.length_nil, List.length_replicate, put_len] at * <;> omega) | ((have hb := at_all (i := x1.2) hp1 (by omega); omega))) (sub_of [] ⟨rfl, rfl, rfl, rfl, rfl, trivial⟩ trivial rfl) ?_ ?_
  · intro x1 i7
    obtain ⟨e8, e9, e10, e11⟩ := i7
    try dsimp only at *
    refine run_seq ?_
    refine run_region (q_move .n (.t rfl) rfl <|
        q_assign .n (.t rfl) rfl <|
        Lex.nil) ?_
    exact run_ret [] (.cons (.t rfl rfl) .nil) rfl trivial rfl
  · intro rec1 k1 hk3 x1 i4
    obtain ⟨e12, e13, e14⟩ := i4
    try dsimp only at *
    refine run_seq ?_
    refine run_region (q_int .n (.t rfl) (.t rfl) rfl rfl <|
        Lex.nil) ?_
    refine run_seq ?_
    refine run_cond (.t rfl) rfl (fun h5 => ?_) (fun h5 => ?_)
    · try simp only [Bool.and_eq_true, Bool.or_eq_true, Bool.not_eq_true', Bool.and_eq_false_iff, Bool.or_eq_false_iff, Bool.not_eq_false', decide_eq_true_eq, decide_eq_false_iff_not, beq_iff_eq, bne_iff_ne, beq_eq_false_iff_ne, bne_eq_false_iff_eq, Bool.true_and, ne_eq, Decidable.not_not, Int.not_lt, Int.not_le, Nat.not_lt, Nat.not_le, strB_nil, strB_nil', strB_nnil, strB_nnil'] at h5
      refine run_skip ?_
      refine run_seq ?_
      refine run_block ?_
      refine run_seq ?_
      refine run_region (q_idx_rm .n (.t rfl) (.t rfl) sl_25 (fun _ => by first | omega | assumption | (simp only [List.length_append, List.length_cons, List.length_nil, List.length_replicate, put_len] at * <;> omega) | ((have hb := at_all (i := x1.2) hp1 (by omega); omega))) rfl <|
          q_ld1_ro .n (.t rfl) rfl ic_2 rfl <|
          q_assign .n (.t rfl) rfl <|
          Lex.nil) ?_
      refine run_seq ?_
      refine run_region (q_move .n (.t rfl) rfl <|
          q_move .n (.t rfl) rfl <|
          q_idx_rm .n (.t rfl) (.t rfl) sl_25 (fun _ => by first | omega | assumption | (simp only [List.length_append, List.length_cons, List.length_nil, List.length_replicate, put_len] at * <;> omega) | ((have hb := at_all (i := x1.2) hp1 (by omega); omega))) rfl <|
          q_ld1_ro .n (.t rfl) rfl ic_2 rfl <|
          q_assign .n (.t rfl) rfl <|
          Lex.nil) ?_
      refine run_seq ?_
      refine run_region (q_move .n (.t rfl) rfl <|
          q_int .n (.t rfl) (.c rfl) rfl rfl <|
          q_move .n (.t rfl) rfl <|
          q_move (.t rfl rfl) (.t rfl) rfl <|
          q_int (.t rfl rfl) (.u rfl id) (.c rfl) rfl rfl <|
          q_move (.t rfl rfl) (.u rfl id) rfl <|
          q_move (.f rfl rfl) (.t rfl) rfl <|
          q_move (.f rfl rfl) (.t rfl) rfl <|
          q_move (.f rfl rfl) (.t rfl) rfl <|
          q_idx_rm (.f rfl rfl) (.u rfl id) (.u rfl id) sl_25 (fun hg => by simp only [Bool.and_eq_true, Bool.or_eq_true, Bool.not_eq_true', Bool.and_eq_false_iff, Bool.or_eq_false_iff, Bool.not_eq_false', decide_eq_true_eq, decide_eq_false_iff_not, beq_iff_eq, bne_iff_ne, beq_eq_false_iff_ne, bne_eq_false_iff_eq, Bool.true_and, ne_eq, Decidable.not_not, Int.not_lt, Int.not_le, Nat.not_lt, Nat.not_le, strB_nil, strB_nil', strB_nnil, strB_nnil'] at hg; first | omega | assumption | (simp only [List.length_append, List.length_cons, List.length_nil, List.length_replicate, put_len] at * <;> omega) | ((have hb := at_all (i := x1.2) hp1 (by omega); omega))) rfl <|
          q_ld1_ro (.f rfl rfl) (.u rfl id) rfl ic_2 rfl <|
          q_int (.f rfl rfl) (.u rfl id) (.u rfl id) rfl rfl <|
          q_or (.t rfl rfl) (.u rfl id) (.u rfl id) rfl <|
          q_and .n (.t rfl) (.u rfl id) rfl <|
          Lex.nil) ?_
      refine run_cond (.t rfl) rfl (fun h6 => ?_) (fun h6 => ?_)
      · try simp only [Bool.and_eq_true, Bool.or_eq_true, Bool.not_eq_true', Bool.and_eq_false_iff, Bool.or_eq_false_iff, Bool.not_eq_false', decide_eq_true_eq, decide_eq_false_iff_not, beq_iff_eq, bne_iff_ne, beq_eq_false_iff_ne, bne_eq_false_iff_eq, Bool.true_and, ne_eq, Decidable.not_not, Int.not_lt, Int.not_le, Nat.not_lt, Nat.not_le, strB_nil, strB_nil', strB_nnil, strB_nnil'] at h6
        refine run_region (q_move .n (.t rfl) rfl <|
            q_assign .n (.t rfl) rfl <|
            Lex.nil) ?_
        refine run_endB ?_
        refine run_region (q_add .n (.t rfl) (.c rfl) (fun _ => by first | omega | assumption | (simp only [List.length_append, List.length_cons, List.length_nil, List.length_replicate, put_len] at * <;> omega) | ((have hb := at_all (i := x1.2) hp1 (by omega); omega))) rfl <|
            q_move .n (.t rfl) rfl <|
            Lex.nil) ?_
        exact run_again (at' junctions x1.2, x1.2 + 1) ⟨by first | omega | assumption | (simp only [List.length_append, List.length_cons, List.length_nil, List.length_replicate, put_len] at * <;> omega) | ((have hb := at_all (i := x1.2) hp1 (by omega); omega)), by first | omega | assumption | (simp only [List.length_append, List.length_cons, List.length_nil, List.length_replicate, put_len] at * <;> omega) | ((have hb := at_all (i := x1.2) hp1 (by omega); omega)), by first | omega | assumption | (simp only [List.length_append, List.length_cons, List.length_nil, List.length_replicate, put_len] at * <;> omega) | ((have hb := at_all (i := x1.2) hp1 (by omega); omega))⟩ (by first | omega | assumption | (simp only [List.length_append, List.length_cons, List.length_nil, List.length_replicate, put_len] at * <;> omega) | ((have hb := at_all (i := x1.2) hp1 (by omega); omega))) (sub_of [] ⟨rfl, rfl, rfl, rfl, rfl, trivial⟩ trivial rfl)
      · try simp only [Bool.and_eq_true, Bool.or_eq_true, Bool.not_eq_true', Bool.and_eq_false_iff, Bool.or_eq_false_iff, Bool.not_eq_false', decide_eq_true_eq, decide_eq_false_iff_not, beq_iff_eq, bne_iff_ne, beq_eq_false_iff_ne, bne_eq_false_iff_eq, Bool.true_and, ne_eq, Decidable.not_not, Int.not_lt, Int.not_le, Nat.not_lt, Nat.not_le, strB_nil, strB_nil', strB_nnil, strB_nnil'] at h6
        refine run_skip ?_
        refine run_endB ?_
        refine run_region (q_add .n (.t rfl) (.c rfl) (fun _ => by first | omega | assumption | (simp only [List.length_append, List.length_cons, List.length_nil, List.length_replicate, put_len] at * <;> omega) | ((have hb := at_all (i := x1.2) hp1 (by omega); omega))) rfl <|
            q_move .n (.t rfl) rfl <|
            Lex.nil) ?_
        exact run_again (x1.1, x1.2 + 1) ⟨by first | omega | assumption | (simp only [List.length_append, List.length_cons, List.length_nil, List.length_replicate, put_len] at * <;> omega) | ((have hb := at_all (i := x1.2) hp1 (by omega); omega)), by first | omega | assumption | (simp only [List.length_append, List.length_cons, List.length_nil, List.length_replicate, put_len] at * <;> omega) | ((have hb := at_all (i := x1.2) hp1 (by omega); omega)), by first | omega | assumption | (simp only [List.length_append, List.length_cons, List.length_nil, List.length_replicate, put_len] at * <;> omega) | ((have hb := at_all (i := x1.2) hp1 (by omega); omega))⟩ (by first | omega | assumption | (simp only [List.length_append, List.length_cons, List.length_nil, List.length_replicate, put_len] at * <;> omega) | ((have hb := at_all (i := x1.2) hp1 (by omega); omega))) (sub_of [] ⟨rfl, rfl, rfl, rfl, rfl, trivial⟩ trivial rfl)
    · try simp only [Bool.and_eq_true, Bool.or_eq_true, Bool.not_eq_true', Bool.and_eq_false_iff, Bool.or_eq_false_iff, Bool.not_eq_false', decide_eq_true_eq, decide_eq_false_iff_not, beq_iff_eq, bne_iff_ne, beq_eq_false_iff_ne, bne_eq_false_iff_eq, Bool.true_and, ne_eq, Decidable.not_not, Int.not_lt, Int.not_le, Nat.not_lt, Nat.not_le, strB_nil, strB_nil', strB_nnil, strB_nnil'] at h5
      refine run_exit rfl ?_
      exact run_cont hk3 (x1.1, x1.2) ⟨by first | omega | assumption | (simp only [List.length_append, List.length_cons, List.length_nil, List.length_replicate, put_len] at * <;> omega) | ((have hb := at_all (i := x1.2) hp1 (by omega); omega)), by first | omega | assumption | (simp only [List.length_append, List.length_cons, List.length_nil, List.length_replicate, put_len] at * <;> omega) | ((have hb := at_all (i := x1.2) hp1 (by omega); omega)), by first | omega | assumption | (simp only [List.length_append, List.length_cons, List.length_nil, List.length_replicate, put_len] at * <;> omega) | ((have hb := at_all (i := x1.2) hp1 (by omega); omega)), by first | omega | assumption | (simp only [List.length_append, List.length_cons, List.length_nil, List.length_replicate, put_len] at * <;> omega) | ((have hb := at_all (i := x1.2) hp1 (by omega); omega))⟩ (sub_of [] ⟨rfl, trivial⟩ trivial rfl)

/-! ### impl_TrappedCrews -/
theorem c_impl_TrappedCrews (m_ : gMine) (arrivals : List Int) (blocked : Int) (list : List gCrew) (start : Int) (exits : List Int) : Con Try.prog 23 [.st [.int .i64 m_.Junctions, .sl 7 (m_.Airways.map gAirway.v)], .sl 1 (arrivals.map (V.int .i64)), .int .i64 blocked, .sl 3 (list.map gCrew.v), .int .i64 start, .sl 1 (exits.map (V.int .i64))] [] (.tup [.os 100 (m_impl_TrappedCrews m_ arrivals blocked list start exits).1.length, .int .i64 (m_impl_TrappedCrews m_ arrivals blocked list start exits).2]) ([(100, some (.row 2 1 ((m_impl_TrappedCrews m_ arrivals blocked list start exits).1.map (V.int .i64))))]) := by
  refine con_intro (out := fun r : (List Int) × Int => ((.tup [.os 100 r.1.length, .int .i64 r.2] : V), ([(100, some (.row 2 1 (r.1.map (V.int .i64))))] : List (Nat × Option O)))) (r := (m_impl_TrappedCrews m_ arrivals blocked list start exits)) Try.func23 rfl Try.ntmps23 rfl ?_
  refine run_factS (t := 0) 1 rfl rfl fun hl => ?_
  have l1 := hl; clear hl; simp only [List.length_map] at l1
  refine run_fact (t := 1) rfl fun hl => ?_
  have l2 := hl; clear hl; simp only [List.length_map] at l2
  refine run_fact (t := 3) rfl fun hl => ?_
  have l3 := hl; clear hl; simp only [List.length_map] at l3
  refine run_fact (t := 5) rfl fun hl => ?_
  have l4 := hl; clear hl; simp only [List.length_map] at l4
  refine run_seq ?_
  refine run_region (q_box (l := 200) .n rfl (.t rfl) rfl rfl rfl rfl <|
      q_assign .n (.c rfl) rfl <|
      q_assign .n (.c rfl) rfl <|
      Lex.nil) ?_
  refine run_seq ?_
  refine run_region (q_ldN_ow .n (.t rfl) rfl (.inr rfl) ag_34 (fun _ => rfl) rfl rfl <|
      q_move .n (.t rfl) rfl <|
      q_move .n (.t rfl) rfl <|
      q_move .n (.t rfl) rfl <|
      q_move .n (.t rfl) rfl <|
      q_move .n (.t rfl) rfl <|
      q_call0 (full := false) .n .f en_43 (.cons (.t rfl) (.cons (.t rfl) (.cons (.t rfl) (.cons (.t rfl) (.cons (.t rfl) (.cons (.t rfl) .nil)))))) (.cons (.sts rfl) (.cons (.b (.a (.same rfl))) (.cons (.b (.a (.same rfl))) (.cons (.b (.a (.same rfl))) (.cons (.b (.a (.same rfl))) (.cons (.b (.a (.same rfl))) .nil)))))) (fun hg => c_impl_escapeOf m_ arrivals blocked list start exits) rfl (fun h => Bool.noConfusion h) rfl <|
      q_move .n (.t rfl) rfl <|
      q_ext .n (.t rfl) rfl rfl rfl <|
      q_ext .n (.t rfl) rfl rfl rfl <|
      q_alloc (l := 201) .n rfl zv_78 rfl rfl <|
      q_st_boxm [.int .i64 (m_impl_escapeOf m_ arrivals blocked list start exits).1.mine.Junctions, .sl 7 ((m_impl_escapeOf m_ arrivals blocked list start exits).1.mine.Airways.map gAirway.v), .sl 1 ((m_impl_escapeOf m_ arrivals blocked list start exits).1.arrivals.map (V.int .i64)), .int .i64 (m_impl_escapeOf m_ arrivals blocked list start exits).1.blocked] .n rfl (.t rfl) (.t rfl) rfl ts_78 rfl rfl <|
      q_assign .n (.t rfl) rfl <|
      Lex.nil) ?_
  refine run_seq ?_
  refine run_seq ?_
  refine run_region (q_move .n (.t rfl) rfl <|
      q_int .n (.t rfl) (.c rfl) rfl rfl <|
      Lex.nil) ?_
  refine run_cond (.t rfl) rfl (fun h5 => ?_) (fun h5 => ?_)
  · try simp only [Bool.and_eq_true, Bool.or_eq_true, Bool.not_eq_true', Bool.and_eq_false_iff, Bool.or_eq_false_iff, Bool.not_eq_false', decide_eq_true_eq, decide_eq_false_iff_not, beq_iff_eq, bne_iff_ne, beq_eq_false_iff_ne, bne_eq_false_iff_eq, Bool.true_and, ne_eq, Decidable.not_not, Int.not_lt, Int.not_le, Nat.not_lt, Nat.not_le, strB_nil, strB_nil', strB_nnil, strB_nnil'] at h5
    try have hf0h5 := escT_S h5
    try have hf1h5 := escT_S h5.1
    try have hf2h5 := escT_S h5.2
    try have hf3h5 := escT_S h5.1.1
    try have hf4h5 := escT_S h5.1.2
    try have hf5h5 := escT_S h5.2.1
    try have hf6h5 := escT_S h5.2.2
    try have hf7h5 := escT_N h5
    try have hf8h5 := escT_N h5.1
    try have hf9h5 := escT_N h5.2
    try have hf10h5 := escT_N h5.1.1
    try have hf11h5 := escT_N h5.1.2
    try have hf12h5 := escT_N h5.2.1
    try have hf13h5 := escT_N h5.2.2
    refine run_seq ?_
    refine run_region (q_move .n (.t rfl) rfl <|
        q_assign .n (.c rfl) rfl <|
        q_assign .n (.t rfl) rfl <|
        Lex.nil) ?_
    refine run_sub (sub_adopt (t := 12) (l := 202) (el := 2) (sz := 1) rfl rfl) ?_
    exact run_ret [(100, 202)] (.cons (.t rfl rfl) (.cons (.t rfl rfl) .nil)) (by first | rfl | (simp only [put_len]; rfl)) ⟨rfl, trivial⟩ rfl
  · try simp only [Bool.and_eq_true, Bool.or_eq_true, Bool.not_eq_true', Bool.and_eq_false_iff, Bool.or_eq_false_iff, Bool.not_eq_false', decide_eq_true_eq, decide_eq_false_iff_not, beq_iff_eq, bne_iff_ne, beq_eq_false_iff_ne, bne_eq_false_iff_eq, Bool.true_and, ne_eq, Decidable.not_not, Int.not_lt, Int.not_le, Nat.not_lt, Nat.not_le, strB_nil, strB_nil', strB_nnil, strB_nnil'] at h5
    try have hf0h5 := escT_S h5
    try have hf1h5 := escT_S h5.1
    try have hf2h5 := escT_S h5.2
    try have hf3h5 := escT_S h5.1.1
    try have hf4h5 := escT_S h5.1.2
    try have hf5h5 := escT_S h5.2.1
    try have hf6h5 := escT_S h5.2.2
    try have hf7h5 := escT_N h5
    try have hf8h5 := escT_N h5.1
    try have hf9h5 := escT_N h5.2
    try have hf10h5 := escT_N h5.1.1
    try have hf11h5 := escT_N h5.1.2
    try have hf12h5 := escT_N h5.2.1
    try have hf13h5 := escT_N h5.2.2
    refine run_skip ?_
    refine run_seq ?_
    refine run_region (q_assign .n (.c rfl) rfl <|
        Lex.nil) ?_
    refine run_seq ?_
    refine run_seq ?_
    refine run_region (q_move .n (.t rfl) rfl <|
        q_len .n (.t rfl) rfl len_map ss_47 rfl <|
        q_move .n (.c rfl) rfl <|
        Lex.nil) ?_
    refine run_block ?_
    refine run_sub (sub_adopt (t := 16) (l := 203) (el := 2) (sz := 1) rfl rfl) ?_
    refine run_LOOP (m_impl_TrappedCrews_b1 m_ arrivals blocked list start exits) _ _ _ rfl (fun (x1 : (List Int) × Int) => 0 ≤ x1.2 ∧ x1.2 ≤ (list.length : Int) ∧ (x1.1.length : Int) + 0 ≤ x1.2 + (([] : List Int).length : Int)) (fun x1 => 0 ≤ x1.2 ∧ x1.2 ≤ (list.length : Int) ∧ (x1.1.length : Int) + 0 ≤ x1.2 + (([] : List Int).length : Int) ∧ (list.length : Int) ≤ x1.2) (fun x1 => ((list.length : Int) - x1.2 : Int).toNat) (fun x1 => ⟨[(4, some (true, .int .i64 start)), (5, some (true, .sl 1 (exits.map (V.int .i64)))), (14, some (true, .op 201 0 0 0)), (16, some (true, .os 203 x1.1.length)), (32, some (true, .sl 3 (list.map gCrew.v))), (33, some (true, .int .i64 (list.length : Int))), (34, some (true, .int .i64 x1.2))], [(201, some (.box 78 [.int .i64 (m_impl_escapeOf m_ arrivals blocked list start exits).1.mine.Junctions, .sl 7 ((m_impl_escapeOf m_ arrivals blocked list start exits).1.mine.Airways.map gAirway.v), .sl 1 ((m_impl_escapeOf m_ arrivals blocked list start exits).1.arrivals.map (V.int .i64)), .int .i64 (m_impl_escapeOf m_ arrivals blocked list start exits).1.blocked])), (203, some (.row 2 1 (x1.1.map (V.int .i64))))]⟩) (fun x1 => ⟨[(16, some (true, .os 203 x1.1.length))], [(203, some (.row 2 1 (x1.1.map (V.int .i64))))]⟩) ⟨by first | omega | assumption | (simp only [List.length_append, List.length_cons, List.length_nil, List.length_replicate, put_len] at * <;> omega) | (exact escT_M (by assumption)) | (exact escT_L (by assumption)) | (exact escT_C (by assumption) (by omega)) | (exact escT_E (by assumption) (by omega)), by first | omega | assumption | (simp only [List.length_append, List.length_cons, List.length_nil, List.length_replicate, put_len] at * <;> omega) | (exact escT_M (by assumption)) | (exact escT_L (by assumption)) | (exact escT_C (by assumption) (by omega)) | (exact escT_E (by assumption) (by omega)), by first | omega | assumption | (simp only [List.length_append, List.length_cons, List.length_nil, List.length_replicate, put_len] at * <;> omega) | (exact escT_M (by assumption)) | (exact escT_L (by assumption)) | (exact escT_C (by assumption) (by omega)) | (exact escT_E (by assumption) (by omega))⟩ (by first | omega | assumption | (simp only [List.length_append, List.length_cons, List.length_nil, List.length_replicate, put_len] at * <;> omega) | (exact escT_M (by assumption)) | (exact escT_L (by assumption)) | (exact escT_C (by assumption) (by omega)) | (exact escT_E (by assumption) (by omega))) (sub_of [] ⟨rfl, rfl, rfl, rfl, rfl, rfl, rfl, trivial⟩ ⟨rfl, rfl, trivial⟩ rfl) ?_ ?_
    · intro x1 i10
      obtain ⟨e11, e12, e13, e14⟩ := i10
      try dsimp only at *
      refine run_seq ?_
      refine run_region (q_move .n (.t rfl) rfl <|
          q_assign .n (.t rfl) rfl <|
          q_assign .n (.c rfl) rfl <|
          Lex.nil) ?_
      exact run_ret [(100, 203)] (.cons (.t rfl rfl) (.cons (.t rfl rfl) .nil)) (by first | rfl | (simp only [put_len]; rfl)) ⟨rfl, trivial⟩ rfl
    · intro rec1 k1 hk6 x1 i7
      obtain ⟨e15, e16, e17⟩ := i7
      try dsimp only at *
      refine run_seq ?_
      refine run_region (q_int .n (.t rfl) (.t rfl) rfl rfl <|
          Lex.nil) ?_
      refine run_seq ?_
      refine run_cond (.t rfl) rfl (fun h8 => ?_) (fun h8 => ?_)
      · try simp only [Bool.and_eq_true, Bool.or_eq_true, Bool.not_eq_true', Bool.and_eq_false_iff, Bool.or_eq_false_iff, Bool.not_eq_false', decide_eq_true_eq, decide_eq_false_iff_not, beq_iff_eq, bne_iff_ne, beq_eq_false_iff_ne, bne_eq_false_iff_eq, Bool.true_and, ne_eq, Decidable.not_not, Int.not_lt, Int.not_le, Nat.not_lt, Nat.not_le, strB_nil, strB_nil', strB_nnil, strB_nnil'] at h8
        refine run_skip ?_
        refine run_seq ?_
        refine run_block ?_
        refine run_seq ?_
        refine run_region (q_move .n (.t rfl) rfl <|
            q_idx_rm .n (.t rfl) (.t rfl) sl_47 (fun _ => by first | omega | assumption | (simp only [List.length_append, List.length_cons, List.length_nil, List.length_replicate, put_len] at * <;> omega) | (exact escT_M (by assumption)) | (exact escT_L (by assumption)) | (exact escT_C (by assumption) (by omega)) | (exact escT_E (by assumption) (by omega))) rfl <|
            q_ldN_ro .n (.t rfl) ag_37 rfl rfl rfl <|
            q_alloc (l := 205) .n rfl zv_37 rfl rfl <|
            q_assign .n (.t rfl) rfl <|
            q_st_boxm [.str (at' list x1.2).Id, .int .i64 (at' list x1.2).Junction, .int .i64 (at' list x1.2).Speed] .n rfl (.t rfl) (.t rfl) rfl ts_37 rfl rfl <|
            Lex.nil) ?_
        refine run_seq ?_
        refine run_region (q_ldN_ow .n (.t rfl) rfl (.inr rfl) ag_78 (fun _ => rfl) rfl rfl <|
            q_ldN_ow .n (.t rfl) rfl (.inr rfl) ag_37 (fun _ => rfl) rfl rfl <|
            q_move .n (.t rfl) rfl <|
            q_callM (full := false) [] [(100, 206)] .n rfl .f en_44 (.cons (.t rfl) (.cons (.t rfl) (.cons (.t rfl) .nil))) (.cons (.sts rfl) (.cons (.sts rfl) (.cons (.b (.a (.same rfl))) .nil))) (c_impl_escape_times (m_impl_escapeOf m_ arrivals blocked list start exits).1 (at' list x1.2) start (by first | omega | assumption | (simp only [List.length_append, List.length_cons, List.length_nil, List.length_replicate, put_len] at * <;> omega) | (exact escT_M (by assumption)) | (exact escT_L (by assumption)) | (exact escT_C (by assumption) (by omega)) | (exact escT_E (by assumption) (by omega))) (by first | omega | assumption | (simp only [List.length_append, List.length_cons, List.length_nil, List.length_replicate, put_len] at * <;> omega) | (exact escT_M (by assumption)) | (exact escT_L (by assumption)) | (exact escT_C (by assumption) (by omega)) | (exact escT_E (by assumption) (by omega))) (by first | omega | assumption | (simp only [List.length_append, List.length_cons, List.length_nil, List.length_replicate, put_len] at * <;> omega) | (exact escT_M (by assumption)) | (exact escT_L (by assumption)) | (exact escT_C (by assumption) (by omega)) | (exact escT_E (by assumption) (by omega))) (by first | omega | assumption | (simp only [List.length_append, List.length_cons, List.length_nil, List.length_replicate, put_len] at * <;> omega) | (exact escT_M (by assumption)) | (exact escT_L (by assumption)) | (exact escT_C (by assumption) (by omega)) | (exact escT_E (by assumption) (by omega)))) trivial rfl rfl (fun h => Bool.noConfusion h) (fun h => Bool.noConfusion h) rfl <|
            q_move .n (.t rfl) rfl <|
            q_call0 (full := true) .n .f en_54 (.cons (.t rfl) (.cons (.t rfl) .nil)) (.cons (.b (.a (.own rfl rfl rfl (take_all (by simp only [len_map, put_len])) (by simp only [len_map, put_len])))) (.cons (.b (.a (.same rfl))) .nil)) (fun hg => c_impl_firstReached (m_impl_escape_times (m_impl_escapeOf m_ arrivals blocked list start exits).1 (at' list x1.2) start) exits (by first | omega | assumption | (simp only [List.length_append, List.length_cons, List.length_nil, List.length_replicate, put_len] at * <;> omega) | (exact escT_M (by assumption)) | (exact escT_L (by assumption)) | (exact escT_C (by assumption) (by omega)) | (exact escT_E (by assumption) (by omega)))) rfl (fun _ => rfl) rfl <|
            q_int .n (.t rfl) (.c rfl) rfl rfl <|
            Lex.nil) ?_
        refine run_cond (.t rfl) rfl (fun h9 => ?_) (fun h9 => ?_)
        · try simp only [Bool.and_eq_true, Bool.or_eq_true, Bool.not_eq_true', Bool.and_eq_false_iff, Bool.or_eq_false_iff, Bool.not_eq_false', decide_eq_true_eq, decide_eq_false_iff_not, beq_iff_eq, bne_iff_ne, beq_eq_false_iff_ne, bne_eq_false_iff_eq, Bool.true_and, ne_eq, Decidable.not_not, Int.not_lt, Int.not_le, Nat.not_lt, Nat.not_le, strB_nil, strB_nil', strB_nnil, strB_nnil'] at h9
          refine run_region (q_move .n (.t rfl) rfl <|
              q_move .n (.t rfl) rfl <|
              q_bslicem ([x1.2] : List Int) (f := V.int .i64) (l := 207) .n rfl rfl (.cons (.t rfl) .nil) rfl si_25 zv_2 rfl rfl rfl <|
              q_appm (xs := x1.1) (ys := ([x1.2] : List Int)) (f := V.int .i64) (l := 208) .n rfl (.ow (.t rfl) rfl (take_all (by simp only [len_map, put_len])) (by simp only [len_map, put_len])) (.ow (.t rfl) rfl (take_all (by simp only [len_map, put_len])) (by simp only [len_map, put_len])) si_25 zv_2 rfl (by first | omega | assumption | (simp only [List.length_append, List.length_cons, List.length_nil, List.length_replicate, put_len] at * <;> omega) | (exact escT_M (by assumption)) | (exact escT_L (by assumption)) | (exact escT_C (by assumption) (by omega)) | (exact escT_E (by assumption) (by omega))) rfl rfl <|
              q_assign .n (.t rfl) rfl <|
              Lex.nil) ?_
          refine run_endB ?_
          refine run_region (q_add .n (.t rfl) (.c rfl) (fun _ => by first | omega | assumption | (simp only [List.length_append, List.length_cons, List.length_nil, List.length_replicate, put_len] at * <;> omega) | (exact escT_M (by assumption)) | (exact escT_L (by assumption)) | (exact escT_C (by assumption) (by omega)) | (exact escT_E (by assumption) (by omega))) rfl <|
              q_move .n (.t rfl) rfl <|
              Lex.nil) ?_
          exact run_again (x1.1 ++ ([x1.2] : List Int), x1.2 + 1) ⟨by first | omega | assumption | (simp only [List.length_append, List.length_cons, List.length_nil, List.length_replicate, put_len] at * <;> omega) | (exact escT_M (by assumption)) | (exact escT_L (by assumption)) | (exact escT_C (by assumption) (by omega)) | (exact escT_E (by assumption) (by omega)), by first | omega | assumption | (simp only [List.length_append, List.length_cons, List.length_nil, List.length_replicate, put_len] at * <;> omega) | (exact escT_M (by assumption)) | (exact escT_L (by assumption)) | (exact escT_C (by assumption) (by omega)) | (exact escT_E (by assumption) (by omega)), by first | omega | assumption | (simp only [List.length_append, List.length_cons, List.length_nil, List.length_replicate, put_len] at * <;> omega) | (exact escT_M (by assumption)) | (exact escT_L (by assumption)) | (exact escT_C (by assumption) (by omega)) | (exact escT_E (by assumption) (by omega))⟩ (by first | omega | assumption | (simp only [List.length_append, List.length_cons, List.length_nil, List.length_replicate, put_len] at * <;> omega) | (exact escT_M (by assumption)) | (exact escT_L (by assumption)) | (exact escT_C (by assumption) (by omega)) | (exact escT_E (by assumption) (by omega))) (sub_of [(203, 208)] ⟨rfl, rfl, rfl, rfl, rfl, rfl, rfl, trivial⟩ ⟨rfl, rfl, trivial⟩ rfl)
        · try simp only [Bool.and_eq_true, Bool.or_eq_true, Bool.not_eq_true', Bool.and_eq_false_iff, Bool.or_eq_false_iff, Bool.not_eq_false', decide_eq_true_eq, decide_eq_false_iff_not, beq_iff_eq, bne_iff_ne, beq_eq_false_iff_ne, bne_eq_false_iff_eq, Bool.true_and, ne_eq, Decidable.not_not, Int.not_lt, Int.not_le, Nat.not_lt, Nat.not_le, strB_nil, strB_nil', strB_nnil, strB_nnil'] at h9
          refine run_skip ?_
          refine run_endB ?_
          refine run_region (q_add .n (.t rfl) (.c rfl) (fun _ => by first | omega | assumption | (simp only [List.length_append, List.length_cons, List.length_nil, List.length_replicate, put_len] at * <;> omega) | (exact escT_M (by assumption)) | (exact escT_L (by assumption)) | (exact escT_C (by assumption) (by omega)) | (exact escT_E (by assumption) (by omega))) rfl <|
              q_move .n (.t rfl) rfl <|
              Lex.nil) ?_
          exact run_again (x1.1, x1.2 + 1) ⟨by first | omega | assumption | (simp only [List.length_append, List.length_cons, List.length_nil, List.length_replicate, put_len] at * <;> omega) | (exact escT_M (by assumption)) | (exact escT_L (by assumption)) | (exact escT_C (by assumption) (by omega)) | (exact escT_E (by assumption) (by omega)), by first | omega | assumption | (simp only [List.length_append, List.length_cons, List.length_nil, List.length_replicate, put_len] at * <;> omega) | (exact escT_M (by assumption)) | (exact escT_L (by assumption)) | (exact escT_C (by assumption) (by omega)) | (exact escT_E (by assumption) (by omega)), by first | omega | assumption | (simp only [List.length_append, List.length_cons, List.length_nil, List.length_replicate, put_len] at * <;> omega) | (exact escT_M (by assumption)) | (exact escT_L (by assumption)) | (exact escT_C (by assumption) (by omega)) | (exact escT_E (by assumption) (by omega))⟩ (by first | omega | assumption | (simp only [List.length_append, List.length_cons, List.length_nil, List.length_replicate, put_len] at * <;> omega) | (exact escT_M (by assumption)) | (exact escT_L (by assumption)) | (exact escT_C (by assumption) (by omega)) | (exact escT_E (by assumption) (by omega))) (sub_of [] ⟨rfl, rfl, rfl, rfl, rfl, rfl, rfl, trivial⟩ ⟨rfl, rfl, trivial⟩ rfl)
      · try simp only [Bool.and_eq_true, Bool.or_eq_true, Bool.not_eq_true', Bool.and_eq_false_iff, Bool.or_eq_false_iff, Bool.not_eq_false', decide_eq_true_eq, decide_eq_false_iff_not, beq_iff_eq, bne_iff_ne, beq_eq_false_iff_ne, bne_eq_false_iff_eq, Bool.true_and, ne_eq, Decidable.not_not, Int.not_lt, Int.not_le, Nat.not_lt, Nat.not_le, strB_nil, strB_nil', strB_nnil, strB_nnil'] at h8
        refine run_exit rfl ?_
        exact run_cont hk6 (x1.1, x1.2) ⟨by first | omega | assumption | (simp only [List.length_append, List.length_cons, List.length_nil, List.length_replicate, put_len] at * <;> omega) | (exact escT_M (by assumption)) | (exact escT_L (by assumption)) | (exact escT_C (by assumption) (by omega)) | (exact escT_E (by assumption) (by omega)), by first | omega | assumption | (simp only [List.length_append, List.length_cons, List.length_nil, List.length_replicate, put_len] at * <;> omega) | (exact escT_M (by assumption)) | (exact escT_L (by assumption)) | (exact escT_C (by assumption) (by omega)) | (exact escT_E (by assumption) (by omega)), by first | omega | assumption | (simp only [List.length_append, List.length_cons, List.length_nil, List.length_replicate, put_len] at * <;> omega) | (exact escT_M (by assumption)) | (exact escT_L (by assumption)) | (exact escT_C (by assumption) (by omega)) | (exact escT_E (by assumption) (by omega)), by first | omega | assumption | (simp only [List.length_append, List.length_cons, List.length_nil, List.length_replicate, put_len] at * <;> omega) | (exact escT_M (by assumption)) | (exact escT_L (by assumption)) | (exact escT_C (by assumption) (by omega)) | (exact escT_E (by assumption) (by omega))⟩ (sub_of [] ⟨rfl, trivial⟩ ⟨rfl, trivial⟩ rfl)

/-! ### laws_eqCrew -/
theorem c_laws_eqCrew (a : gCrew) (b : gCrew) : Con Try.prog 55 [.st [.str a.Id, .int .i64 a.Junction, .int .i64 a.Speed], .st [.str b.Id, .int .i64 b.Junction, .int .i64 b.Speed]] [] (.bool (m_laws_eqCrew a b)) ([]) := by
  refine con_intro (out := fun r : Bool => ((.bool r : V), ([] : List (Nat × Option O)))) (r := (m_laws_eqCrew a b)) Try.func55 rfl Try.ntmps55 rfl ?_
  refine run_seq ?_
  refine run_region (q_box (l := 200) .n rfl (.t rfl) rfl rfl rfl rfl <|
      q_box (l := 201) .n rfl (.t rfl) rfl rfl rfl rfl <|
      q_assign .n (.c rfl) rfl <|
      Lex.nil) ?_
  refine run_seq ?_
  refine run_seq ?_
  refine run_region (q_fld_ow .n (.t rfl) fo_37_0 rfl <|
      q_ld1_ow .n (.t rfl) rfl (.inr rfl) (fun _ => rfl) rfl ic_9 rfl <|
      q_fld_ow .n (.t rfl) fo_37_0 rfl <|
      q_ld1_ow .n (.t rfl) rfl (.inr rfl) (fun _ => rfl) rfl ic_9 rfl <|
      q_strcmp .n (.t rfl) (.t rfl) rfl rfl <|
      Lex.nil) ?_
  refine run_cond (.t rfl) rfl (fun h1 => ?_) (fun h1 => ?_)
  · try simp only [Bool.and_eq_true, Bool.or_eq_true, Bool.not_eq_true', Bool.and_eq_false_iff, Bool.or_eq_false_iff, Bool.not_eq_false', decide_eq_true_eq, decide_eq_false_iff_not, beq_iff_eq, bne_iff_ne, beq_eq_false_iff_ne, bne_eq_false_iff_eq, Bool.true_and, ne_eq, Decidable.not_not, Int.not_lt, Int.not_le, Nat.not_lt, Nat.not_le, strB_nil, strB_nil', strB_nnil, strB_nnil'] at h1
    refine run_seq ?_
    refine run_region (q_assign .n (.c rfl) rfl <|
        Lex.nil) ?_
    exact run_ret [] (.cons (.t rfl rfl) .nil) rfl trivial rfl
  · try simp only [Bool.and_eq_true, Bool.or_eq_true, Bool.not_eq_true', Bool.and_eq_false_iff, Bool.or_eq_false_iff, Bool.not_eq_false', decide_eq_true_eq, decide_eq_false_iff_not, beq_iff_eq, bne_iff_ne, beq_eq_false_iff_ne, bne_eq_false_iff_eq, Bool.true_and, ne_eq, Decidable.not_not, Int.not_lt, Int.not_le, Nat.not_lt, Nat.not_le, strB_nil, strB_nil', strB_nnil, strB_nnil'] at h1
    refine run_skip ?_
    refine run_seq ?_
    refine run_seq ?_
    refine run_region (q_fld_ow .n (.t rfl) fo_37_1 rfl <|
        q_ld1_ow .n (.t rfl) rfl (.inr rfl) (fun _ => rfl) rfl ic_2 rfl <|
        q_fld_ow .n (.t rfl) fo_37_1 rfl <|
        q_ld1_ow .n (.t rfl) rfl (.inr rfl) (fun _ => rfl) rfl ic_2 rfl <|
        q_int .n (.t rfl) (.t rfl) rfl rfl <|
        Lex.nil) ?_
    refine run_cond (.t rfl) rfl (fun h2 => ?_) (fun h2 => ?_)
    · try simp only [Bool.and_eq_true, Bool.or_eq_true, Bool.not_eq_true', Bool.and_eq_false_iff, Bool.or_eq_false_iff, Bool.not_eq_false', decide_eq_true_eq, decide_eq_false_iff_not, beq_iff_eq, bne_iff_ne, beq_eq_false_iff_ne, bne_eq_false_iff_eq, Bool.true_and, ne_eq, Decidable.not_not, Int.not_lt, Int.not_le, Nat.not_lt, Nat.not_le, strB_nil, strB_nil', strB_nnil, strB_nnil'] at h2
      refine run_seq ?_
      refine run_region (q_assign .n (.c rfl) rfl <|
          Lex.nil) ?_
      exact run_ret [] (.cons (.t rfl rfl) .nil) rfl trivial rfl
    · try simp only [Bool.and_eq_true, Bool.or_eq_true, Bool.not_eq_true', Bool.and_eq_false_iff, Bool.or_eq_false_iff, Bool.not_eq_false', decide_eq_true_eq, decide_eq_false_iff_not, beq_iff_eq, bne_iff_ne, beq_eq_false_iff_ne, bne_eq_false_iff_eq, Bool.true_and, ne_eq, Decidable.not_not, Int.not_lt, Int.not_le, Nat.not_lt, Nat.not_le, strB_nil, strB_nil', strB_nnil, strB_nnil'] at h2
      refine run_skip ?_
      refine run_seq ?_
      refine run_seq ?_
      refine run_region (q_fld_ow .n (.t rfl) fo_37_2 rfl <|
          q_ld1_ow .n (.t rfl) rfl (.inr rfl) (fun _ => rfl) rfl ic_2 rfl <|
          q_fld_ow .n (.t rfl) fo_37_2 rfl <|
          q_ld1_ow .n (.t rfl) rfl (.inr rfl) (fun _ => rfl) rfl ic_2 rfl <|
          q_int .n (.t rfl) (.t rfl) rfl rfl <|
          Lex.nil) ?_
      refine run_cond (.t rfl) rfl (fun h3 => ?_) (fun h3 => ?_)
      · try simp only [Bool.and_eq_true, Bool.or_eq_true, Bool.not_eq_true', Bool.and_eq_false_iff, Bool.or_eq_false_iff, Bool.not_eq_false', decide_eq_true_eq, decide_eq_false_iff_not, beq_iff_eq, bne_iff_ne, beq_eq_false_iff_ne, bne_eq_false_iff_eq, Bool.true_and, ne_eq, Decidable.not_not, Int.not_lt, Int.not_le, Nat.not_lt, Nat.not_le, strB_nil, strB_nil', strB_nnil, strB_nnil'] at h3
        refine run_seq ?_
        refine run_region (q_assign .n (.c rfl) rfl <|
            Lex.nil) ?_
        exact run_ret [] (.cons (.t rfl rfl) .nil) rfl trivial rfl
      · try simp only [Bool.and_eq_true, Bool.or_eq_true, Bool.not_eq_true', Bool.and_eq_false_iff, Bool.or_eq_false_iff, Bool.not_eq_false', decide_eq_true_eq, decide_eq_false_iff_not, beq_iff_eq, bne_iff_ne, beq_eq_false_iff_ne, bne_eq_false_iff_eq, Bool.true_and, ne_eq, Decidable.not_not, Int.not_lt, Int.not_le, Nat.not_lt, Nat.not_le, strB_nil, strB_nil', strB_nnil, strB_nnil'] at h3
        refine run_skip ?_
        refine run_seq ?_
        refine run_region (q_assign .n (.c rfl) rfl <|
            Lex.nil) ?_
        exact run_ret [] (.cons (.t rfl rfl) .nil) rfl trivial rfl

/-! ### laws_eqCrewS -/
theorem c_laws_eqCrewS (a : List gCrew) (b : List gCrew) : Con Try.prog 24 [.sl 3 (a.map gCrew.v), .sl 3 (b.map gCrew.v)] [] (.bool (m_laws_eqCrewS a b)) ([]) := by
  refine con_intro (out := fun r : Bool => ((.bool r : V), ([] : List (Nat × Option O)))) (r := (m_laws_eqCrewS a b)) Try.func24 rfl Try.ntmps24 rfl ?_
  refine run_fact (t := 0) rfl fun hl => ?_
  have l1 := hl; clear hl; simp only [List.length_map] at l1
  refine run_fact (t := 1) rfl fun hl => ?_
  have l2 := hl; clear hl; simp only [List.length_map] at l2
  refine run_seq ?_
  refine run_region (q_assign .n (.c rfl) rfl <|
      Lex.nil) ?_
  refine run_seq ?_
  refine run_seq ?_
  refine run_region (q_move .n (.t rfl) rfl <|
      q_len .n (.t rfl) rfl len_map ss_47 rfl <|
      q_move .n (.t rfl) rfl <|
      q_len .n (.t rfl) rfl len_map ss_47 rfl <|
      q_int .n (.t rfl) (.t rfl) rfl rfl <|
      Lex.nil) ?_
  refine run_cond (.t rfl) rfl (fun h3 => ?_) (fun h3 => ?_)
  · try simp only [Bool.and_eq_true, Bool.or_eq_true, Bool.not_eq_true', Bool.and_eq_false_iff, Bool.or_eq_false_iff, Bool.not_eq_false', decide_eq_true_eq, decide_eq_false_iff_not, beq_iff_eq, bne_iff_ne, beq_eq_false_iff_ne, bne_eq_false_iff_eq, Bool.true_and, ne_eq, Decidable.not_not, Int.not_lt, Int.not_le, Nat.not_lt, Nat.not_le, strB_nil, strB_nil', strB_nnil, strB_nnil'] at h3
    refine run_seq ?_
    refine run_region (q_assign .n (.c rfl) rfl <|
        Lex.nil) ?_
    exact run_ret [] (.cons (.t rfl rfl) .nil) rfl trivial rfl
  · try simp only [Bool.and_eq_true, Bool.or_eq_true, Bool.not_eq_true', Bool.and_eq_false_iff, Bool.or_eq_false_iff, Bool.not_eq_false', decide_eq_true_eq, decide_eq_false_iff_not, beq_iff_eq, bne_iff_ne, beq_eq_false_iff_ne, bne_eq_false_iff_eq, Bool.true_and, ne_eq, Decidable.not_not, Int.not_lt, Int.not_le, Nat.not_lt, Nat.not_le, strB_nil, strB_nil', strB_nnil, strB_nnil'] at h3
    refine run_skip ?_
    refine run_seq ?_
    refine run_seq ?_
    refine run_region (q_assign .n (.c rfl) rfl <|
        Lex.nil) ?_
    refine run_block ?_
    refine run_LOOP (m_laws_eqCrewS_b1 a b) _ _ _ rfl (fun (x1 : Int) => 0 ≤ x1 ∧ x1 ≤ (a.length : Int)) (fun x1 => 0 ≤ x1 ∧ x1 ≤ (a.length : Int) ∧ (a.length : Int) ≤ x1) (fun x1 => ((a.length : Int) - x1 : Int).toNat) (fun x1 => ⟨[(0, some (true, .sl 3 (a.map gCrew.v))), (1, some (true, .sl 3 (b.map gCrew.v))), (5, some (true, .int .i64 x1))], []⟩) (fun x1 => ⟨[], []⟩) ⟨by first | omega | assumption | (simp only [List.length_append, List.length_cons, List.length_nil, List.length_replicate, put_len] at * <;> omega), by first | omega | assumption | (simp only [List.length_append, List.length_cons, List.length_nil, List.length_replicate, put_len] at * <;> omega)⟩ (by first | omega | assumption | (simp only [List.length_append, List.length_cons, List.length_nil, List.length_replicate, put_len] at * <;> omega)) (sub_of [] ⟨rfl, rfl, rfl, trivial⟩ trivial rfl) ?_ ?_
    · intro x1 i8
      obtain ⟨e9, e10, e11⟩ := i8
      try dsimp only at *
      refine run_seq ?_
      refine run_region (q_assign .n (.c rfl) rfl <|
          Lex.nil) ?_
      exact run_ret [] (.cons (.t rfl rfl) .nil) rfl trivial rfl
    · intro rec1 k1 hk4 x1 i5
      obtain ⟨e12, e13⟩ := i5
      try dsimp only at *
      refine run_seq ?_
      refine run_seq ?_
      refine run_region (q_move .n (.t rfl) rfl <|
          q_move .n (.t rfl) rfl <|
          q_len .n (.t rfl) rfl len_map ss_47 rfl <|
          q_int .n (.t rfl) (.t rfl) rfl rfl <|
          Lex.nil) ?_
      refine run_cond (.t rfl) rfl (fun h6 => ?_) (fun h6 => ?_)
      · try simp only [Bool.and_eq_true, Bool.or_eq_true, Bool.not_eq_true', Bool.and_eq_false_iff, Bool.or_eq_false_iff, Bool.not_eq_false', decide_eq_true_eq, decide_eq_false_iff_not, beq_iff_eq, bne_iff_ne, beq_eq_false_iff_ne, bne_eq_false_iff_eq, Bool.true_and, ne_eq, Decidable.not_not, Int.not_lt, Int.not_le, Nat.not_lt, Nat.not_le, strB_nil, strB_nil', strB_nnil, strB_nnil'] at h6
        refine run_skip ?_
        refine run_seq ?_
        refine run_block ?_
        refine run_seq ?_
        refine run_draw fmo (q_move .n (.t rfl) rfl <|
            q_move .n (.t rfl) rfl <|
            q_idx_rm .n (.t rfl) (.t rfl) sl_47 (fun _ => by first | omega | assumption | (simp only [List.length_append, List.length_cons, List.length_nil, List.length_replicate, put_len] at * <;> omega)) rfl <|
            q_ldN_ro .n (.t rfl) ag_37 rfl rfl rfl <|
            q_move .n (.t rfl) rfl <|
            q_move .n (.t rfl) rfl <|
            q_idx_rm .n (.t rfl) (.t rfl) sl_47 (fun _ => by first | omega | assumption | (simp only [List.length_append, List.length_cons, List.length_nil, List.length_replicate, put_len] at * <;> omega)) rfl <|
            q_ldN_ro .n (.t rfl) ag_37 rfl rfl rfl <|
            q_call0 (full := false) .n .f en_55 (.cons (.t rfl) (.cons (.t rfl) .nil)) (.cons (.sts rfl) (.cons (.sts rfl) .nil)) (fun hg => c_laws_eqCrew (at' a x1) (at' b x1)) rfl (fun h => Bool.noConfusion h) rfl <|
            q_not .n (.t rfl) rfl <|
            Lex.nil) (by kernel_rfl) ?_
        refine run_cond (.t rfl) rfl (fun h7 => ?_) (fun h7 => ?_)
        · try simp only [Bool.and_eq_true, Bool.or_eq_true, Bool.not_eq_true', Bool.and_eq_false_iff, Bool.or_eq_false_iff, Bool.not_eq_false', decide_eq_true_eq, decide_eq_false_iff_not, beq_iff_eq, bne_iff_ne, beq_eq_false_iff_ne, bne_eq_false_iff_eq, Bool.true_and, ne_eq, Decidable.not_not, Int.not_lt, Int.not_le, Nat.not_lt, Nat.not_le, strB_nil, strB_nil', strB_nnil, strB_nnil'] at h7
          refine run_seq ?_
          refine run_region (q_assign .n (.c rfl) rfl <|
              Lex.nil) ?_
          exact run_ret [] (.cons (.t rfl rfl) .nil) rfl trivial rfl
        · try simp only [Bool.and_eq_true, Bool.or_eq_true, Bool.not_eq_true', Bool.and_eq_false_iff, Bool.or_eq_false_iff, Bool.not_eq_false', decide_eq_true_eq, decide_eq_false_iff_not, beq_iff_eq, bne_iff_ne, beq_eq_false_iff_ne, bne_eq_false_iff_eq, Bool.true_and, ne_eq, Decidable.not_not, Int.not_lt, Int.not_le, Nat.not_lt, Nat.not_le, strB_nil, strB_nil', strB_nnil, strB_nnil'] at h7
          refine run_skip ?_
          refine run_endB ?_
          refine run_region (q_move .n (.t rfl) rfl <|
              q_add .n (.t rfl) (.c rfl) (fun _ => by first | omega | assumption | (simp only [List.length_append, List.length_cons, List.length_nil, List.length_replicate, put_len] at * <;> omega)) rfl <|
              q_assign .n (.t rfl) rfl <|
              Lex.nil) ?_
          exact run_again (x1 + 1) ⟨by first | omega | assumption | (simp only [List.length_append, List.length_cons, List.length_nil, List.length_replicate, put_len] at * <;> omega), by first | omega | assumption | (simp only [List.length_append, List.length_cons, List.length_nil, List.length_replicate, put_len] at * <;> omega)⟩ (by first | omega | assumption | (simp only [List.length_append, List.length_cons, List.length_nil, List.length_replicate, put_len] at * <;> omega)) (sub_of [] ⟨rfl, rfl, rfl, trivial⟩ trivial rfl)
      · try simp only [Bool.and_eq_true, Bool.or_eq_true, Bool.not_eq_true', Bool.and_eq_false_iff, Bool.or_eq_false_iff, Bool.not_eq_false', decide_eq_true_eq, decide_eq_false_iff_not, beq_iff_eq, bne_iff_ne, beq_eq_false_iff_ne, bne_eq_false_iff_eq, Bool.true_and, ne_eq, Decidable.not_not, Int.not_lt, Int.not_le, Nat.not_lt, Nat.not_le, strB_nil, strB_nil', strB_nnil, strB_nnil'] at h6
        refine run_exit rfl ?_
        exact run_cont hk4 x1 ⟨by first | omega | assumption | (simp only [List.length_append, List.length_cons, List.length_nil, List.length_replicate, put_len] at * <;> omega), by first | omega | assumption | (simp only [List.length_append, List.length_cons, List.length_nil, List.length_replicate, put_len] at * <;> omega), by first | omega | assumption | (simp only [List.length_append, List.length_cons, List.length_nil, List.length_replicate, put_len] at * <;> omega)⟩ (sub_of [] trivial trivial rfl)

/-! ### laws_markCrewS -/
theorem c_laws_markCrewS (a : List gCrew) (k_ : Int) (hp1 : k_ ≤ 9223372036854775807) : Con Try.prog 25 [.os 0 a.length, .int .i64 k_] [(0, some (.row 37 3 (a.map gCrew.v)))] (.int .i64 (m_laws_markCrewS a k_).1) ([(0, some (.row 37 3 ((m_laws_markCrewS a k_).2.map gCrew.v)))]) := by
  refine con_intro (out := fun r : Int × (List gCrew) => ((.int .i64 r.1 : V), ([(0, some (.row 37 3 (r.2.map gCrew.v)))] : List (Nat × Option O)))) (r := (m_laws_markCrewS a k_)) Try.func25 rfl Try.ntmps25 rfl ?_
  refine run_factH (l := 0) rfl fun hl => ?_
  have l1 := hl; clear hl; simp only [List.length_map] at l1
  refine run_seq ?_
  refine run_region (q_assign .n (.c rfl) rfl <|
      Lex.nil) ?_
  refine run_seq ?_
  refine run_seq ?_
  refine run_region (q_assign .n (.c rfl) rfl <|
      Lex.nil) ?_
  refine run_block ?_
  refine run_LOOP (m_laws_markCrewS_b1 a k_) _ _ _ rfl (fun (x1 : (List gCrew) × Int × Int) => 0 ≤ x1.2.2 ∧ x1.1.length = a.length ∧ x1.2.1 ≤ 9223372036854775807) (fun x1 => 0 ≤ x1.2.2 ∧ x1.1.length = a.length ∧ x1.2.1 ≤ 9223372036854775807 ∧ (x1.1.length : Int) ≤ x1.2.2) (fun x1 => ((x1.1.length : Int) - x1.2.2 : Int).toNat) (fun x1 => ⟨[(0, some (true, .os 0 x1.1.length)), (1, some (true, .int .i64 x1.2.1)), (5, some (true, .int .i64 x1.2.2))], [(0, some (.row 37 3 (x1.1.map gCrew.v)))]⟩) (fun x1 => ⟨[(1, some (true, .int .i64 x1.2.1))], [(0, some (.row 37 3 (x1.1.map gCrew.v)))]⟩) ⟨by first | omega | assumption | (simp only [List.length_append, List.length_cons, List.length_nil, List.length_replicate, put_len] at * <;> omega) | (exact wr64_le), by first | omega | assumption | (simp only [List.length_append, List.length_cons, List.length_nil, List.length_replicate, put_len] at * <;> omega) | (exact wr64_le), by first | omega | assumption | (simp only [List.length_append, List.length_cons, List.length_nil, List.length_replicate, put_len] at * <;> omega) | (exact wr64_le)⟩ (by first | omega | assumption | (simp only [List.length_append, List.length_cons, List.length_nil, List.length_replicate, put_len] at * <;> omega) | (exact wr64_le)) (sub_of [] ⟨rfl, rfl, rfl, trivial⟩ ⟨rfl, trivial⟩ rfl) ?_ ?_
  · intro x1 i5
    obtain ⟨e6, e7, e8, e9⟩ := i5
    try dsimp only at *
    refine run_seq ?_
    refine run_region (q_move .n (.t rfl) rfl <|
        q_assign .n (.t rfl) rfl <|
        Lex.nil) ?_
    exact run_ret [] (.cons (.t rfl rfl) .nil) rfl ⟨rfl, trivial⟩ rfl
  · intro rec1 k1 hk2 x1 i3
    obtain ⟨e10, e11, e12⟩ := i3
    try dsimp only at *
    refine run_seq ?_
    refine run_seq ?_
    refine run_region (q_move .n (.t rfl) rfl <|
        q_move .n (.t rfl) rfl <|
        q_len .n (.t rfl) rfl rfl ss_47 rfl <|
        q_int .n (.t rfl) (.t rfl) rfl rfl <|
        Lex.nil) ?_
    refine run_cond (.t rfl) rfl (fun h4 => ?_) (fun h4 => ?_)
    · try simp only [Bool.and_eq_true, Bool.or_eq_true, Bool.not_eq_true', Bool.and_eq_false_iff, Bool.or_eq_false_iff, Bool.not_eq_false', decide_eq_true_eq, decide_eq_false_iff_not, beq_iff_eq, bne_iff_ne, beq_eq_false_iff_ne, bne_eq_false_iff_eq, Bool.true_and, ne_eq, Decidable.not_not, Int.not_lt, Int.not_le, Nat.not_lt, Nat.not_le, strB_nil, strB_nil', strB_nnil, strB_nnil'] at h4
      refine run_skip ?_
      refine run_seq ?_
      refine run_block ?_
      refine run_seq ?_
      refine run_region (q_move .n (.t rfl) rfl <|
          q_move .n (.t rfl) rfl <|
          q_move .n (.t rfl) rfl <|
          q_call0 (full := false) .n .f en_56 (.cons (.t rfl) .nil) (.cons (.b (.a (.same rfl))) .nil) (fun hg => c_laws_markText x1.2.1 (by first | omega | assumption | (simp only [List.length_append, List.length_cons, List.length_nil, List.length_replicate, put_len] at * <;> omega) | (exact wr64_le))) rfl (fun h => Bool.noConfusion h) rfl <|
          q_idx_ow .n (.t rfl) (.t rfl) sl_47 (fun _ => by first | omega | assumption | (simp only [List.length_append, List.length_cons, List.length_nil, List.length_replicate, put_len] at * <;> omega) | (exact wr64_le)) rfl <|
          q_fld_ow .n (.t rfl) fo_37_0 rfl <|
          q_st_rowm (gCrew.mk (m_laws_markText x1.2.1) (at' x1.1 x1.2.2).Junction (at' x1.1 x1.2.2).Speed) .n rfl (.t rfl) (.t rfl) rfl ts_9 (by first | omega | assumption | (simp only [List.length_append, List.length_cons, List.length_nil, List.length_replicate, put_len] at * <;> omega) | (exact wr64_le)) rfl rfl <|
          Lex.nil) ?_
      refine run_seq ?_
      refine run_region (q_move .n (.t rfl) rfl <|
          q_int .n (.t rfl) (.c rfl) rfl rfl <|
          q_assign .n (.t rfl) rfl <|
          Lex.nil) ?_
      refine run_seq ?_
      refine run_region (q_move .n (.t rfl) rfl <|
          q_move .n (.t rfl) rfl <|
          q_move .n (.t rfl) rfl <|
          q_idx_ow .n (.t rfl) (.t rfl) sl_47 (fun _ => by first | omega | assumption | (simp only [List.length_append, List.length_cons, List.length_nil, List.length_replicate, put_len] at * <;> omega) | (exact wr64_le)) rfl <|
          q_fld_ow .n (.t rfl) fo_37_1 rfl <|
          q_st_rowp (gCrew.mk (m_laws_markText x1.2.1) (at' x1.1 x1.2.2).Junction (at' x1.1 x1.2.2).Speed) (gCrew.mk (m_laws_markText x1.2.1) (IntKind.wrap .i64 (x1.2.1 + 1)) (at' x1.1 x1.2.2).Speed) .n rfl (.t rfl) (.t rfl) rfl ts_2 (by first | omega | assumption | (simp only [List.length_append, List.length_cons, List.length_nil, List.length_replicate, put_len] at * <;> omega) | (exact wr64_le)) rfl rfl <|
          Lex.nil) ?_
      refine run_seq ?_
      refine run_region (q_move .n (.t rfl) rfl <|
          q_int .n (.t rfl) (.c rfl) rfl rfl <|
          q_assign .n (.t rfl) rfl <|
          Lex.nil) ?_
      refine run_seq ?_
      refine run_region (q_move .n (.t rfl) rfl <|
          q_move .n (.t rfl) rfl <|
          q_move .n (.t rfl) rfl <|
          q_idx_ow .n (.t rfl) (.t rfl) sl_47 (fun _ => by first | omega | assumption | (simp only [List.length_append, List.length_cons, List.length_nil, List.length_replicate, put_len] at * <;> omega) | (exact wr64_le)) rfl <|
          q_fld_ow .n (.t rfl) fo_37_2 rfl <|
          q_st_rowp (gCrew.mk (m_laws_markText x1.2.1) (IntKind.wrap .i64 (x1.2.1 + 1)) (at' x1.1 x1.2.2).Speed) (gCrew.mk (m_laws_markText x1.2.1) (IntKind.wrap .i64 (x1.2.1 + 1)) (IntKind.wrap .i64 ((IntKind.wrap .i64 (x1.2.1 + 1)) + 1))) .n rfl (.t rfl) (.t rfl) rfl ts_2 (by first | omega | assumption | (simp only [List.length_append, List.length_cons, List.length_nil, List.length_replicate, put_len] at * <;> omega) | (exact wr64_le)) rfl rfl <|
          Lex.nil) ?_
      refine run_region (q_move .n (.t rfl) rfl <|
          q_int .n (.t rfl) (.c rfl) rfl rfl <|
          q_assign .n (.t rfl) rfl <|
          Lex.nil) ?_
      refine run_endB ?_
      refine run_region (q_move .n (.t rfl) rfl <|
          q_add .n (.t rfl) (.c rfl) (fun _ => by first | omega | assumption | (simp only [List.length_append, List.length_cons, List.length_nil, List.length_replicate, put_len] at * <;> omega) | (exact wr64_le)) rfl <|
          q_assign .n (.t rfl) rfl <|
          Lex.nil) ?_
      exact run_again (put' x1.1 x1.2.2 (gCrew.mk (m_laws_markText x1.2.1) (IntKind.wrap .i64 (x1.2.1 + 1)) (IntKind.wrap .i64 ((IntKind.wrap .i64 (x1.2.1 + 1)) + 1))), IntKind.wrap .i64 ((IntKind.wrap .i64 ((IntKind.wrap .i64 (x1.2.1 + 1)) + 1)) + 1), x1.2.2 + 1) ⟨by first | omega | assumption | (simp only [List.length_append, List.length_cons, List.length_nil, List.length_replicate, put_len] at * <;> omega) | (exact wr64_le), by first | omega | assumption | (simp only [List.length_append, List.length_cons, List.length_nil, List.length_replicate, put_len] at * <;> omega) | (exact wr64_le), by first | omega | assumption | (simp only [List.length_append, List.length_cons, List.length_nil, List.length_replicate, put_len] at * <;> omega) | (exact wr64_le)⟩ (by first | omega | assumption | (simp only [List.length_append, List.length_cons, List.length_nil, List.length_replicate, put_len] at * <;> omega) | (exact wr64_le)) (sub_of [] ⟨os_len rfl (by first | (simp only [put_len]; done) | (first | omega | assumption | (simp only [List.length_append, List.length_cons, List.length_nil, List.length_replicate, put_len] at * <;> omega) | (exact wr64_le))), rfl, rfl, trivial⟩ ⟨rfl, trivial⟩ rfl)
    · try simp only [Bool.and_eq_true, Bool.or_eq_true, Bool.not_eq_true', Bool.and_eq_false_iff, Bool.or_eq_false_iff, Bool.not_eq_false', decide_eq_true_eq, decide_eq_false_iff_not, beq_iff_eq, bne_iff_ne, beq_eq_false_iff_ne, bne_eq_false_iff_eq, Bool.true_and, ne_eq, Decidable.not_not, Int.not_lt, Int.not_le, Nat.not_lt, Nat.not_le, strB_nil, strB_nil', strB_nnil, strB_nnil'] at h4
      refine run_exit rfl ?_
      exact run_cont hk2 (x1.1, x1.2.1, x1.2.2) ⟨by first | omega | assumption | (simp only [List.length_append, List.length_cons, List.length_nil, List.length_replicate, put_len] at * <;> omega) | (exact wr64_le), by first | omega | assumption | (simp only [List.length_append, List.length_cons, List.length_nil, List.length_replicate, put_len] at * <;> omega) | (exact wr64_le), by first | omega | assumption | (simp only [List.length_append, List.length_cons, List.length_nil, List.length_replicate, put_len] at * <;> omega) | (exact wr64_le), by first | omega | assumption | (simp only [List.length_append, List.length_cons, List.length_nil, List.length_replicate, put_len] at * <;> omega) | (exact wr64_le)⟩ (sub_of [] ⟨rfl, trivial⟩ ⟨rfl, trivial⟩ rfl)


end Go.Proofs.Ythcboapohklfnaa
