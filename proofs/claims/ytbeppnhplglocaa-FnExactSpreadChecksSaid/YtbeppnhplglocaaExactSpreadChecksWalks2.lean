/-
  THE WALKS: each Go function computes its model. Conditions: as each theorem states them (hp1, hp2 ..).
-/
import Derived.Test.YtbeppnhplglocaaExactSpreadChecksWalks1
set_option linter.unusedVariables false
set_option linter.unusedSimpArgs false
set_option linter.unusedSectionVars false
set_option linter.unnecessarySimpa false
namespace Go.Proofs.Ytbeppnhplglocaa
open Go Go.RowKit Go.Proofs Go.Proofs.Ytbeppnhplglocaa.E
/-! ### cmp_Compare_int64 -/
theorem c_cmp_Compare_int64 (x_ : Int) (y : Int) : Con Try.prog 98 [.int .i64 x_, .int .i64 y] [] (.int .i64 (m_cmp_Compare_int64 x_ y)) ([]) := by
  refine con_intro (out := fun r : Int => ((.int .i64 r : V), ([] : List (Nat × Option O)))) (r := (m_cmp_Compare_int64 x_ y)) Try.func98 rfl Try.ntmps98 rfl ?_
  refine run_seq ?_
  refine run_region (q_assign .n (.c rfl) rfl <|
      Lex.nil) ?_
  refine run_seq ?_
  refine run_region (q_move .n (.t rfl) rfl <|
      q_call0 (full := false) .n .f en_123 (.cons (.t rfl) .nil) (.cons (.b (.a (.same rfl))) .nil) (fun hg => c_cmp_isNaN_int64 x_) rfl (fun h => Bool.noConfusion h) rfl <|
      q_assign .n (.t rfl) rfl <|
      Lex.nil) ?_
  refine run_seq ?_
  refine run_region (q_move .n (.t rfl) rfl <|
      q_call0 (full := false) .n .f en_123 (.cons (.t rfl) .nil) (.cons (.b (.a (.same rfl))) .nil) (fun hg => c_cmp_isNaN_int64 y) rfl (fun h => Bool.noConfusion h) rfl <|
      q_assign .n (.t rfl) rfl <|
      Lex.nil) ?_
  refine run_seq ?_
  refine run_seq ?_
  refine run_region (q_move .n (.t rfl) rfl <|
      Lex.nil) ?_
  refine run_cond (.t rfl) rfl (fun h1 => ?_) (fun h1 => ?_)
  · try simp only [Bool.and_eq_true, Bool.or_eq_true, Bool.not_eq_true', Bool.and_eq_false_iff, Bool.or_eq_false_iff, Bool.not_eq_false', decide_eq_true_eq, decide_eq_false_iff_not, beq_iff_eq, bne_iff_ne, beq_eq_false_iff_ne, bne_eq_false_iff_eq, Bool.true_and, ne_eq, Decidable.not_not, Int.not_lt, Int.not_le, Nat.not_lt, Nat.not_le, strB_nil, strB_nil', strB_nnil, strB_nnil'] at h1
    refine run_seq ?_
    refine run_seq ?_
    refine run_region (q_move .n (.t rfl) rfl <|
        Lex.nil) ?_
    refine run_cond (.t rfl) rfl (fun h2 => ?_) (fun h2 => ?_)
    · try simp only [Bool.and_eq_true, Bool.or_eq_true, Bool.not_eq_true', Bool.and_eq_false_iff, Bool.or_eq_false_iff, Bool.not_eq_false', decide_eq_true_eq, decide_eq_false_iff_not, beq_iff_eq, bne_iff_ne, beq_eq_false_iff_ne, bne_eq_false_iff_eq, Bool.true_and, ne_eq, Decidable.not_not, Int.not_lt, Int.not_le, Nat.not_lt, Nat.not_le, strB_nil, strB_nil', strB_nnil, strB_nnil'] at h2
      refine run_seq ?_
      refine run_region (q_assign .n (.c rfl) rfl <|
          Lex.nil) ?_
      exact run_ret [] (.cons (.t rfl rfl) .nil) rfl trivial rfl
    · try simp only [Bool.and_eq_true, Bool.or_eq_true, Bool.not_eq_true', Bool.and_eq_false_iff, Bool.or_eq_false_iff, Bool.not_eq_false', decide_eq_true_eq, decide_eq_false_iff_not, beq_iff_eq, bne_iff_ne, beq_eq_false_iff_ne, bne_eq_false_iff_eq, Bool.true_and, ne_eq, Decidable.not_not, Int.not_lt, Int.not_le, Nat.not_lt, Nat.not_le, strB_nil, strB_nil', strB_nnil, strB_nnil'] at h2
      refine run_skip ?_
      refine run_seq ?_
      refine run_region (q_assign .n (.c rfl) rfl <|
          Lex.nil) ?_
      exact run_ret [] (.cons (.t rfl rfl) .nil) rfl trivial rfl
  · try simp only [Bool.and_eq_true, Bool.or_eq_true, Bool.not_eq_true', Bool.and_eq_false_iff, Bool.or_eq_false_iff, Bool.not_eq_false', decide_eq_true_eq, decide_eq_false_iff_not, beq_iff_eq, bne_iff_ne, beq_eq_false_iff_ne, bne_eq_false_iff_eq, Bool.true_and, ne_eq, Decidable.not_not, Int.not_lt, Int.not_le, Nat.not_lt, Nat.not_le, strB_nil, strB_nil', strB_nnil, strB_nnil'] at h1
    refine run_skip ?_
    refine run_seq ?_
    refine run_seq ?_
    refine run_region (q_move .n (.t rfl) rfl <|
        Lex.nil) ?_
    refine run_cond (.t rfl) rfl (fun h3 => ?_) (fun h3 => ?_)
    · try simp only [Bool.and_eq_true, Bool.or_eq_true, Bool.not_eq_true', Bool.and_eq_false_iff, Bool.or_eq_false_iff, Bool.not_eq_false', decide_eq_true_eq, decide_eq_false_iff_not, beq_iff_eq, bne_iff_ne, beq_eq_false_iff_ne, bne_eq_false_iff_eq, Bool.true_and, ne_eq, Decidable.not_not, Int.not_lt, Int.not_le, Nat.not_lt, Nat.not_le, strB_nil, strB_nil', strB_nnil, strB_nnil'] at h3
      refine run_seq ?_
      refine run_region (q_assign .n (.c rfl) rfl <|
          Lex.nil) ?_
      exact run_ret [] (.cons (.t rfl rfl) .nil) rfl trivial rfl
    · try simp only [Bool.and_eq_true, Bool.or_eq_true, Bool.not_eq_true', Bool.and_eq_false_iff, Bool.or_eq_false_iff, Bool.not_eq_false', decide_eq_true_eq, decide_eq_false_iff_not, beq_iff_eq, bne_iff_ne, beq_eq_false_iff_ne, bne_eq_false_iff_eq, Bool.true_and, ne_eq, Decidable.not_not, Int.not_lt, Int.not_le, Nat.not_lt, Nat.not_le, strB_nil, strB_nil', strB_nnil, strB_nnil'] at h3
      refine run_skip ?_
      refine run_seq ?_
      refine run_seq ?_
      refine run_region (q_move .n (.t rfl) rfl <|
          q_move .n (.t rfl) rfl <|
          q_int .n (.t rfl) (.t rfl) rfl rfl <|
          Lex.nil) ?_
      refine run_cond (.t rfl) rfl (fun h4 => ?_) (fun h4 => ?_)
      · try simp only [Bool.and_eq_true, Bool.or_eq_true, Bool.not_eq_true', Bool.and_eq_false_iff, Bool.or_eq_false_iff, Bool.not_eq_false', decide_eq_true_eq, decide_eq_false_iff_not, beq_iff_eq, bne_iff_ne, beq_eq_false_iff_ne, bne_eq_false_iff_eq, Bool.true_and, ne_eq, Decidable.not_not, Int.not_lt, Int.not_le, Nat.not_lt, Nat.not_le, strB_nil, strB_nil', strB_nnil, strB_nnil'] at h4
        refine run_seq ?_
        refine run_region (q_assign .n (.c rfl) rfl <|
            Lex.nil) ?_
        exact run_ret [] (.cons (.t rfl rfl) .nil) rfl trivial rfl
      · try simp only [Bool.and_eq_true, Bool.or_eq_true, Bool.not_eq_true', Bool.and_eq_false_iff, Bool.or_eq_false_iff, Bool.not_eq_false', decide_eq_true_eq, decide_eq_false_iff_not, beq_iff_eq, bne_iff_ne, beq_eq_false_iff_ne, bne_eq_false_iff_eq, Bool.true_and, ne_eq, Decidable.not_not, Int.not_lt, Int.not_le, Nat.not_lt, Nat.not_le, strB_nil, strB_nil', strB_nnil, strB_nnil'] at h4
        refine run_skip ?_
        refine run_seq ?_
        refine run_seq ?_
        refine run_region (q_move .n (.t rfl) rfl <|
            q_move .n (.t rfl) rfl <|
            q_int .n (.t rfl) (.t rfl) rfl rfl <|
            Lex.nil) ?_
        refine run_cond (.t rfl) rfl (fun h5 => ?_) (fun h5 => ?_)
        · try simp only [Bool.and_eq_true, Bool.or_eq_true, Bool.not_eq_true', Bool.and_eq_false_iff, Bool.or_eq_false_iff, Bool.not_eq_false', decide_eq_true_eq, decide_eq_false_iff_not, beq_iff_eq, bne_iff_ne, beq_eq_false_iff_ne, bne_eq_false_iff_eq, Bool.true_and, ne_eq, Decidable.not_not, Int.not_lt, Int.not_le, Nat.not_lt, Nat.not_le, strB_nil, strB_nil', strB_nnil, strB_nnil'] at h5
          refine run_seq ?_
          refine run_region (q_assign .n (.c rfl) rfl <|
              Lex.nil) ?_
          exact run_ret [] (.cons (.t rfl rfl) .nil) rfl trivial rfl
        · try simp only [Bool.and_eq_true, Bool.or_eq_true, Bool.not_eq_true', Bool.and_eq_false_iff, Bool.or_eq_false_iff, Bool.not_eq_false', decide_eq_true_eq, decide_eq_false_iff_not, beq_iff_eq, bne_iff_ne, beq_eq_false_iff_ne, bne_eq_false_iff_eq, Bool.true_and, ne_eq, Decidable.not_not, Int.not_lt, Int.not_le, Nat.not_lt, Nat.not_le, strB_nil, strB_nil', strB_nnil, strB_nnil'] at h5
          refine run_skip ?_
          refine run_seq ?_
          refine run_region (q_assign .n (.c rfl) rfl <|
              Lex.nil) ?_
          exact run_ret [] (.cons (.t rfl rfl) .nil) rfl trivial rfl

/-! ### impl_Check_due -/
theorem c_impl_Check_due (c_ : gCheck) : Con Try.prog 99 [.st [.str c_.Id, .int .i64 c_.Every, .int .i64 c_.Last]] [] (.int .i64 (m_impl_Check_due c_)) ([]) := by
  refine con_intro (out := fun r : Int => ((.int .i64 r : V), ([] : List (Nat × Option O)))) (r := (m_impl_Check_due c_)) Try.func99 rfl Try.ntmps99 rfl ?_
  refine run_seq ?_
  refine run_region (q_box (l := 200) .n rfl (.t rfl) rfl rfl rfl rfl <|
      q_assign .n (.c rfl) rfl <|
      Lex.nil) ?_
  refine run_seq ?_
  refine run_region (q_fld_ow .n (.t rfl) fo_83_2 rfl <|
      q_ld1_ow .n (.t rfl) rfl (.inr rfl) (fun _ => rfl) rfl ic_2 rfl <|
      q_fld_ow .n (.t rfl) fo_83_1 rfl <|
      q_ld1_ow .n (.t rfl) rfl (.inr rfl) (fun _ => rfl) rfl ic_2 rfl <|
      q_int .n (.t rfl) (.t rfl) rfl rfl <|
      q_assign .n (.t rfl) rfl <|
      Lex.nil) ?_
  exact run_ret [] (.cons (.t rfl rfl) .nil) rfl trivial rfl

/-! ### impl_spread_1 -/
theorem c_impl_spread_1 (a : Int) (b : Int) (p2 : List gCheck) (hp1 : 0 ≤ a ∧ a < p2.length) (hp2 : 0 ≤ b ∧ b < p2.length) : Con Try.prog 97 [.int .i64 a, .int .i64 b, .rp [.sl 3 (p2.map gCheck.v)]] [] (.int .i64 (m_impl_spread_1 a b p2)) ([]) := by
  refine con_intro (out := fun r : Int => ((.int .i64 r : V), ([] : List (Nat × Option O)))) (r := (m_impl_spread_1 a b p2)) Try.func97 rfl Try.ntmps97 rfl ?_
  refine run_factP (t := 2) 0 rfl rfl fun hl => ?_
  have l1 := hl; clear hl; simp only [List.length_map] at l1
  refine run_seq ?_
  refine run_region (q_assign .n (.c rfl) rfl <|
      Lex.nil) ?_
  refine run_seq ?_
  refine run_draw fmo (q_ld1_ro .n (.t rfl) rfl ic_27 rfl <|
      q_move .n (.t rfl) rfl <|
      q_idx_rm .n (.t rfl) (.t rfl) sl_27 (fun _ => by first | omega | assumption | (simp only [List.length_append, List.length_cons, List.length_nil, List.length_replicate, put_len] at * <;> omega)) rfl <|
      q_ldN_ro .n (.t rfl) ag_83 rfl rfl rfl <|
      q_call0 (full := false) .n .f en_99 (.cons (.t rfl) .nil) (.cons (.sts rfl) .nil) (fun hg => c_impl_Check_due (at' p2 a)) rfl (fun h => Bool.noConfusion h) rfl <|
      q_ld1_ro .n (.t rfl) rfl ic_27 rfl <|
      q_move .n (.t rfl) rfl <|
      q_idx_rm .n (.t rfl) (.t rfl) sl_27 (fun _ => by first | omega | assumption | (simp only [List.length_append, List.length_cons, List.length_nil, List.length_replicate, put_len] at * <;> omega)) rfl <|
      q_ldN_ro .n (.t rfl) ag_83 rfl rfl rfl <|
      q_call0 (full := false) .n .f en_99 (.cons (.t rfl) .nil) (.cons (.sts rfl) .nil) (fun hg => c_impl_Check_due (at' p2 b)) rfl (fun h => Bool.noConfusion h) rfl <|
      q_call0 (full := false) .n .f en_98 (.cons (.t rfl) (.cons (.t rfl) .nil)) (.cons (.b (.a (.same rfl))) (.cons (.b (.a (.same rfl))) .nil)) (fun hg => c_cmp_Compare_int64 (m_impl_Check_due (at' p2 a)) (m_impl_Check_due (at' p2 b))) rfl (fun h => Bool.noConfusion h) rfl <|
      q_assign .n (.t rfl) rfl <|
      Lex.nil) (by kernel_rfl) ?_
  exact run_ret [] (.cons (.t rfl rfl) .nil) rfl trivial rfl

/-! ### impl_spread -/
set_option maxRecDepth 100000 in
set_option maxHeartbeats 4000000 in
theorem c_impl_spread (list : List gCheck) (from_ : Int) (perDay : Int) (hp1 : CkIn list) (hp2 : list.length ≤ 16) (hp3 : 0 ≤ from_ ∧ from_ ≤ 100000) (hp4 : 1 ≤ perDay ∧ perDay ≤ 16) : Con Try.prog 51 [.sl 3 (list.map gCheck.v), .int .i64 from_, .int .i64 perDay] [] (.tup [.os 100 (m_impl_spread list from_ perDay).1.length, .bool (m_impl_spread list from_ perDay).2]) ([(100, some (.row 2 1 ((m_impl_spread list from_ perDay).1.map (V.int .i64))))]) := by
  refine con_intro (out := fun r : (List Int) × Bool => ((.tup [.os 100 r.1.length, .bool r.2] : V), ([(100, some (.row 2 1 (r.1.map (V.int .i64))))] : List (Nat × Option O)))) (r := (m_impl_spread list from_ perDay)) Try.func51 rfl Try.ntmps51 rfl ?_
  refine run_fact (t := 0) rfl fun hl => ?_
  have l1 := hl; clear hl; simp only [List.length_map] at l1
  refine run_seq ?_
  refine run_region (q_box (l := 200) .n rfl (.t rfl) rfl rfl rfl rfl <|
      q_assign .n (.c rfl) rfl <|
      q_assign .n (.c rfl) rfl <|
      Lex.nil) ?_
  refine run_seq ?_
  refine run_region (q_ld1_ow .n (.t rfl) rfl (.inr rfl) (fun _ => rfl) rfl ic_27 rfl <|
      q_len .n (.t rfl) rfl len_map ss_27 rfl <|
      q_makem (f := V.int .i64) (l := 201) (0 : Int) .n rfl (.t rfl) (.t rfl) si_140 zv_3 (by first | omega | assumption | (simp only [List.length_append, List.length_cons, List.length_nil, List.length_replicate, put_len] at * <;> omega) | ((dsimp only; omega)) | ((have hl := stable_len (data := x1.1) (cmp := fun (a0 : Int) (a1 : Int) => m_impl_spread_1 a0 a1 list) (by omega); have hb := stable_mem (R := fun x => 0 ≤ x ∧ x < (list.length : Int)) (data := x1.1) (i := x2.2) (cmp := fun (a0 : Int) (a1 : Int) => m_impl_spread_1 a0 a1 list) (by assumption) (by omega) (by omega); (try dsimp only at hb); first | omega | (dsimp only; omega) | (rw [put_len]; omega))) | ((intro y hy; simp only [List.mem_replicate] at hy; obtain ⟨h1, rfl⟩ := hy; (try dsimp only); omega)) | ((dsimp only; exact put_all (by assumption) (by omega))) | ((have hl := stable_len (data := x1.1) (cmp := fun (a0 : Int) (a1 : Int) => m_impl_spread_1 a0 a1 list) (by omega); first | omega | (dsimp only; omega)))) rfl rfl rfl <|
      q_assign .n (.t rfl) rfl <|
      Lex.nil) ?_
  refine run_seq ?_
  refine run_seq ?_
  refine run_region (q_move .n (.t rfl) rfl <|
      q_len .n (.t rfl) rfl rfl ss_140 rfl <|
      q_move .n (.c rfl) rfl <|
      Lex.nil) ?_
  refine run_block ?_
  refine run_LOOP (m_impl_spread_b1 list from_ perDay) _ _ _ rfl (fun (x1 : (List Int) × Int) => 0 ≤ x1.2 ∧ x1.2 ≤ ((List.replicate ((list.length : Int) : Int).toNat (0 : Int)).length : Int) ∧ x1.1.length = (List.replicate ((list.length : Int) : Int).toNat (0 : Int)).length ∧ x1.1.length = list.length ∧ (∀ x ∈ x1.1, 0 ≤ x ∧ x < list.length)) (fun x1 => 0 ≤ x1.2 ∧ x1.2 ≤ ((List.replicate ((list.length : Int) : Int).toNat (0 : Int)).length : Int) ∧ x1.1.length = (List.replicate ((list.length : Int) : Int).toNat (0 : Int)).length ∧ x1.1.length = list.length ∧ (∀ x ∈ x1.1, 0 ≤ x ∧ x < list.length) ∧ ((List.replicate ((list.length : Int) : Int).toNat (0 : Int)).length : Int) ≤ x1.2) (fun x1 => (((List.replicate ((list.length : Int) : Int).toNat (0 : Int)).length : Int) - x1.2 : Int).toNat) (fun x1 => ⟨[(1, some (true, .int .i64 from_)), (2, some (true, .int .i64 perDay)), (3, some (true, .op 200 0 0 0)), (8, some (true, .os 201 x1.1.length)), (17, some (true, .int .i64 ((List.replicate ((list.length : Int) : Int).toNat (0 : Int)).length : Int))), (18, some (true, .int .i64 x1.2))], [(200, some (.box 27 [.sl 3 (list.map gCheck.v)])), (201, some (.row 3 1 (x1.1.map (V.int .i64))))]⟩) (fun x1 => ⟨[(1, some (true, .int .i64 from_)), (2, some (true, .int .i64 perDay)), (3, some (true, .op 200 0 0 0)), (8, some (true, .os 201 x1.1.length))], [(200, some (.box 27 [.sl 3 (list.map gCheck.v)])), (201, some (.row 3 1 (x1.1.map (V.int .i64))))]⟩) ⟨by first | omega | assumption | (simp only [List.length_append, List.length_cons, List.length_nil, List.length_replicate, put_len] at * <;> omega) | ((dsimp only; omega)) | ((have hl := stable_len (data := x1.1) (cmp := fun (a0 : Int) (a1 : Int) => m_impl_spread_1 a0 a1 list) (by omega); have hb := stable_mem (R := fun x => 0 ≤ x ∧ x < (list.length : Int)) (data := x1.1) (i := x2.2) (cmp := fun (a0 : Int) (a1 : Int) => m_impl_spread_1 a0 a1 list) (by assumption) (by omega) (by omega); (try dsimp only at hb); first | omega | (dsimp only; omega) | (rw [put_len]; omega))) | ((intro y hy; simp only [List.mem_replicate] at hy; obtain ⟨h1, rfl⟩ := hy; (try dsimp only); omega)) | ((dsimp only; exact put_all (by assumption) (by omega))) | ((have hl := stable_len (data := x1.1) (cmp := fun (a0 : Int) (a1 : Int) => m_impl_spread_1 a0 a1 list) (by omega); first | omega | (dsimp only; omega))), by first | omega | assumption | (simp only [List.length_append, List.length_cons, List.length_nil, List.length_replicate, put_len] at * <;> omega) | ((dsimp only; omega)) | ((have hl := stable_len (data := x1.1) (cmp := fun (a0 : Int) (a1 : Int) => m_impl_spread_1 a0 a1 list) (by omega); have hb := stable_mem (R := fun x => 0 ≤ x ∧ x < (list.length : Int)) (data := x1.1) (i := x2.2) (cmp := fun (a0 : Int) (a1 : Int) => m_impl_spread_1 a0 a1 list) (by assumption) (by omega) (by omega); (try dsimp only at hb); first | omega | (dsimp only; omega) | (rw [put_len]; omega))) | ((intro y hy; simp only [List.mem_replicate] at hy; obtain ⟨h1, rfl⟩ := hy; (try dsimp only); omega)) | ((dsimp only; exact put_all (by assumption) (by omega))) | ((have hl := stable_len (data := x1.1) (cmp := fun (a0 : Int) (a1 : Int) => m_impl_spread_1 a0 a1 list) (by omega); first | omega | (dsimp only; omega))), by first | omega | assumption | (simp only [List.length_append, List.length_cons, List.length_nil, List.length_replicate, put_len] at * <;> omega) | ((dsimp only; omega)) | ((have hl := stable_len (data := x1.1) (cmp := fun (a0 : Int) (a1 : Int) => m_impl_spread_1 a0 a1 list) (by omega); have hb := stable_mem (R := fun x => 0 ≤ x ∧ x < (list.length : Int)) (data := x1.1) (i := x2.2) (cmp := fun (a0 : Int) (a1 : Int) => m_impl_spread_1 a0 a1 list) (by assumption) (by omega) (by omega); (try dsimp only at hb); first | omega | (dsimp only; omega) | (rw [put_len]; omega))) | ((intro y hy; simp only [List.mem_replicate] at hy; obtain ⟨h1, rfl⟩ := hy; (try dsimp only); omega)) | ((dsimp only; exact put_all (by assumption) (by omega))) | ((have hl := stable_len (data := x1.1) (cmp := fun (a0 : Int) (a1 : Int) => m_impl_spread_1 a0 a1 list) (by omega); first | omega | (dsimp only; omega))), by first | omega | assumption | (simp only [List.length_append, List.length_cons, List.length_nil, List.length_replicate, put_len] at * <;> omega) | ((dsimp only; omega)) | ((have hl := stable_len (data := x1.1) (cmp := fun (a0 : Int) (a1 : Int) => m_impl_spread_1 a0 a1 list) (by omega); have hb := stable_mem (R := fun x => 0 ≤ x ∧ x < (list.length : Int)) (data := x1.1) (i := x2.2) (cmp := fun (a0 : Int) (a1 : Int) => m_impl_spread_1 a0 a1 list) (by assumption) (by omega) (by omega); (try dsimp only at hb); first | omega | (dsimp only; omega) | (rw [put_len]; omega))) | ((intro y hy; simp only [List.mem_replicate] at hy; obtain ⟨h1, rfl⟩ := hy; (try dsimp only); omega)) | ((dsimp only; exact put_all (by assumption) (by omega))) | ((have hl := stable_len (data := x1.1) (cmp := fun (a0 : Int) (a1 : Int) => m_impl_spread_1 a0 a1 list) (by omega); first | omega | (dsimp only; omega))), by first | omega | assumption | (simp only [List.length_append, List.length_cons, List.length_nil, List.length_replicate, put_len] at * <;> omega) | ((dsimp only; omega)) | ((have hl := stable_len (data := x1.1) (cmp := fun (a0 : Int) (a1 : Int) => m_impl_spread_1 a0 a1 list) (by omega); have hb := stable_mem (R := fun x => 0 ≤ x ∧ x < (list.length : Int)) (data := x1.1) (i := x2.2) (cmp := fun (a0 : Int) (a1 : Int) => m_impl_spread_1 a0 a1 list) (by assumption) (by omega) (by omega); (try dsimp only at hb); first | omega | (dsimp only; omega) | (rw [put_len]; omega))) | ((intro y hy; simp only [List.mem_replicate] at hy; obtain ⟨h1, rfl⟩ := hy; (try dsimp only); omega)) | ((dsimp only; exact put_all (by assumption) (by omega))) | ((have hl := stable_len (data := x1.1) (cmp := fun (a0 : Int) (a1 : Int) => m_impl_spread_1 a0 a1 list) (by omega); first | omega | (dsimp only; omega)))⟩ (by first | omega | assumption | (simp only [List.length_append, List.length_cons, List.length_nil, List.length_replicate, put_len] at * <;> omega) | ((dsimp only; omega)) | ((have hl := stable_len (data := x1.1) (cmp := fun (a0 : Int) (a1 : Int) => m_impl_spread_1 a0 a1 list) (by omega); have hb := stable_mem (R := fun x => 0 ≤ x ∧ x < (list.length : Int)) (data := x1.1) (i := x2.2) (cmp := fun (a0 : Int) (a1 : Int) => m_impl_spread_1 a0 a1 list) (by assumption) (by omega) (by omega); (try dsimp only at hb); first | omega | (dsimp only; omega) | (rw [put_len]; omega))) | ((intro y hy; simp only [List.mem_replicate] at hy; obtain ⟨h1, rfl⟩ := hy; (try dsimp only); omega)) | ((dsimp only; exact put_all (by assumption) (by omega))) | ((have hl := stable_len (data := x1.1) (cmp := fun (a0 : Int) (a1 : Int) => m_impl_spread_1 a0 a1 list) (by omega); first | omega | (dsimp only; omega)))) (sub_of [] ⟨rfl, rfl, rfl, rfl, rfl, rfl, trivial⟩ ⟨rfl, rfl, trivial⟩ rfl) ?_ ?_
  · intro x1 i5
    obtain ⟨e20, e21, e22, e23, e24, e25⟩ := i5
    try dsimp only at *
    refine run_seq ?_
    refine run_region (q_move .n (.t rfl) rfl <|
        q_clo .n (.cons (.t rfl) .nil) rfl rfl <|
        q_callM (full := true) [(0, 201)] [] .n rfl .f en_96 (.cons (.t rfl) (.cons (.t rfl) .nil)) (.cons (.b (.muts rfl)) (.cons (.clo (.cons (.ptr rfl rfl (.inr rfl) rfl rfl (.cons (.same rfl) .nil)) .nil)) .nil)) (c_slices_SortStableFunc_int x1.1 (fun (a0 : Int) (a1 : Int) => m_impl_spread_1 a0 a1 list) 97 [.rp [.sl 3 (list.map gCheck.v)]] en_97 rfl (fun x => 0 ≤ x ∧ x < list.length) (fun a0 a1 hq0 hq1 => c_impl_spread_1 a0 a1 list (by (try dsimp only at *); first | omega | assumption | (simp only [List.length_append, List.length_cons, List.length_nil, List.length_replicate, put_len] at * <;> omega) | ((dsimp only; omega)) | ((have hl := stable_len (data := x1.1) (cmp := fun (a0 : Int) (a1 : Int) => m_impl_spread_1 a0 a1 list) (by omega); have hb := stable_mem (R := fun x => 0 ≤ x ∧ x < (list.length : Int)) (data := x1.1) (i := x2.2) (cmp := fun (a0 : Int) (a1 : Int) => m_impl_spread_1 a0 a1 list) (by assumption) (by omega) (by omega); (try dsimp only at hb); first | omega | (dsimp only; omega) | (rw [put_len]; omega))) | ((intro y hy; simp only [List.mem_replicate] at hy; obtain ⟨h1, rfl⟩ := hy; (try dsimp only); omega)) | ((dsimp only; exact put_all (by assumption) (by omega))) | ((have hl := stable_len (data := x1.1) (cmp := fun (a0 : Int) (a1 : Int) => m_impl_spread_1 a0 a1 list) (by omega); first | omega | (dsimp only; omega)))) (by (try dsimp only at *); first | omega | assumption | (simp only [List.length_append, List.length_cons, List.length_nil, List.length_replicate, put_len] at * <;> omega) | ((dsimp only; omega)) | ((have hl := stable_len (data := x1.1) (cmp := fun (a0 : Int) (a1 : Int) => m_impl_spread_1 a0 a1 list) (by omega); have hb := stable_mem (R := fun x => 0 ≤ x ∧ x < (list.length : Int)) (data := x1.1) (i := x2.2) (cmp := fun (a0 : Int) (a1 : Int) => m_impl_spread_1 a0 a1 list) (by assumption) (by omega) (by omega); (try dsimp only at hb); first | omega | (dsimp only; omega) | (rw [put_len]; omega))) | ((intro y hy; simp only [List.mem_replicate] at hy; obtain ⟨h1, rfl⟩ := hy; (try dsimp only); omega)) | ((dsimp only; exact put_all (by assumption) (by omega))) | ((have hl := stable_len (data := x1.1) (cmp := fun (a0 : Int) (a1 : Int) => m_impl_spread_1 a0 a1 list) (by omega); first | omega | (dsimp only; omega))))) (by first | omega | assumption | (simp only [List.length_append, List.length_cons, List.length_nil, List.length_replicate, put_len] at * <;> omega) | ((dsimp only; omega)) | ((have hl := stable_len (data := x1.1) (cmp := fun (a0 : Int) (a1 : Int) => m_impl_spread_1 a0 a1 list) (by omega); have hb := stable_mem (R := fun x => 0 ≤ x ∧ x < (list.length : Int)) (data := x1.1) (i := x2.2) (cmp := fun (a0 : Int) (a1 : Int) => m_impl_spread_1 a0 a1 list) (by assumption) (by omega) (by omega); (try dsimp only at hb); first | omega | (dsimp only; omega) | (rw [put_len]; omega))) | ((intro y hy; simp only [List.mem_replicate] at hy; obtain ⟨h1, rfl⟩ := hy; (try dsimp only); omega)) | ((dsimp only; exact put_all (by assumption) (by omega))) | ((have hl := stable_len (data := x1.1) (cmp := fun (a0 : Int) (a1 : Int) => m_impl_spread_1 a0 a1 list) (by omega); first | omega | (dsimp only; omega)))) (by first | omega | assumption | (simp only [List.length_append, List.length_cons, List.length_nil, List.length_replicate, put_len] at * <;> omega) | ((dsimp only; omega)) | ((have hl := stable_len (data := x1.1) (cmp := fun (a0 : Int) (a1 : Int) => m_impl_spread_1 a0 a1 list) (by omega); have hb := stable_mem (R := fun x => 0 ≤ x ∧ x < (list.length : Int)) (data := x1.1) (i := x2.2) (cmp := fun (a0 : Int) (a1 : Int) => m_impl_spread_1 a0 a1 list) (by assumption) (by omega) (by omega); (try dsimp only at hb); first | omega | (dsimp only; omega) | (rw [put_len]; omega))) | ((intro y hy; simp only [List.mem_replicate] at hy; obtain ⟨h1, rfl⟩ := hy; (try dsimp only); omega)) | ((dsimp only; exact put_all (by assumption) (by omega))) | ((have hl := stable_len (data := x1.1) (cmp := fun (a0 : Int) (a1 : Int) => m_impl_spread_1 a0 a1 list) (by omega); first | omega | (dsimp only; omega))))) ⟨rfl, trivial⟩ rfl rfl (fun _ => rfl) (fun _ => (hr_row (fun _ => rfl) hr_nil)) rfl <|
        Lex.nil) ?_
    refine run_seq ?_
    refine run_region (q_ld1_ow .n (.t rfl) rfl (.inr rfl) (fun _ => rfl) rfl ic_27 rfl <|
        q_len .n (.t rfl) rfl len_map ss_27 rfl <|
        q_makem (f := V.int .i64) (l := 202) (0 : Int) .n rfl (.t rfl) (.t rfl) si_24 zv_2 (by first | omega | assumption | (simp only [List.length_append, List.length_cons, List.length_nil, List.length_replicate, put_len] at * <;> omega) | ((dsimp only; omega)) | ((have hl := stable_len (data := x1.1) (cmp := fun (a0 : Int) (a1 : Int) => m_impl_spread_1 a0 a1 list) (by omega); have hb := stable_mem (R := fun x => 0 ≤ x ∧ x < (list.length : Int)) (data := x1.1) (i := x2.2) (cmp := fun (a0 : Int) (a1 : Int) => m_impl_spread_1 a0 a1 list) (by assumption) (by omega) (by omega); (try dsimp only at hb); first | omega | (dsimp only; omega) | (rw [put_len]; omega))) | ((intro y hy; simp only [List.mem_replicate] at hy; obtain ⟨h1, rfl⟩ := hy; (try dsimp only); omega)) | ((dsimp only; exact put_all (by assumption) (by omega))) | ((have hl := stable_len (data := x1.1) (cmp := fun (a0 : Int) (a1 : Int) => m_impl_spread_1 a0 a1 list) (by omega); first | omega | (dsimp only; omega)))) rfl rfl rfl <|
        q_assign .n (.t rfl) rfl <|
        Lex.nil) ?_
    refine run_seq ?_
    refine run_seq ?_
    refine run_region (q_move .n (.t rfl) rfl <|
        q_len .n (.t rfl) rfl rfl ss_140 rfl <|
        q_move .n (.c rfl) rfl <|
        Lex.nil) ?_
    refine run_block ?_
    refine run_LOOP (m_impl_spread_b2 list from_ perDay x1) _ _ _ rfl (fun (x2 : (List Int) × Int) => 0 ≤ x2.2 ∧ x2.2 ≤ (x1.1.length : Int) ∧ x2.1.length = (List.replicate ((list.length : Int) : Int).toNat (0 : Int)).length ∧ x2.1.length = list.length) (fun x2 => 0 ≤ x2.2 ∧ x2.2 ≤ (x1.1.length : Int) ∧ x2.1.length = (List.replicate ((list.length : Int) : Int).toNat (0 : Int)).length ∧ x2.1.length = list.length ∧ (x1.1.length : Int) ≤ x2.2) (fun x2 => ((x1.1.length : Int) - x2.2 : Int).toNat) (fun x2 => ⟨[(1, some (true, .int .i64 from_)), (2, some (true, .int .i64 perDay)), (3, some (true, .op 200 0 0 0)), (10, some (true, .os 202 x2.1.length)), (32, some (true, .os 201 (m_slices_SortStableFunc_int x1.1 (fun (a0 : Int) (a1 : Int) => m_impl_spread_1 a0 a1 list)).length)), (33, some (true, .int .i64 (x1.1.length : Int))), (34, some (true, .int .i64 x2.2))], [(200, some (.box 27 [.sl 3 (list.map gCheck.v)])), (201, some (.row 3 1 ((m_slices_SortStableFunc_int x1.1 (fun (a0 : Int) (a1 : Int) => m_impl_spread_1 a0 a1 list)).map (V.int .i64)))), (202, some (.row 2 1 (x2.1.map (V.int .i64))))]⟩) (fun x2 => ⟨[(10, some (true, .os 202 x2.1.length))], [(202, some (.row 2 1 (x2.1.map (V.int .i64))))]⟩) ⟨by first | omega | assumption | (simp only [List.length_append, List.length_cons, List.length_nil, List.length_replicate, put_len] at * <;> omega) | ((dsimp only; omega)) | ((have hl := stable_len (data := x1.1) (cmp := fun (a0 : Int) (a1 : Int) => m_impl_spread_1 a0 a1 list) (by omega); have hb := stable_mem (R := fun x => 0 ≤ x ∧ x < (list.length : Int)) (data := x1.1) (i := x2.2) (cmp := fun (a0 : Int) (a1 : Int) => m_impl_spread_1 a0 a1 list) (by assumption) (by omega) (by omega); (try dsimp only at hb); first | omega | (dsimp only; omega) | (rw [put_len]; omega))) | ((intro y hy; simp only [List.mem_replicate] at hy; obtain ⟨h1, rfl⟩ := hy; (try dsimp only); omega)) | ((dsimp only; exact put_all (by assumption) (by omega))) | ((have hl := stable_len (data := x1.1) (cmp := fun (a0 : Int) (a1 : Int) => m_impl_spread_1 a0 a1 list) (by omega); first | omega | (dsimp only; omega))), by first | omega | assumption | (simp only [List.length_append, List.length_cons, List.length_nil, List.length_replicate, put_len] at * <;> omega) | ((dsimp only; omega)) | ((have hl := stable_len (data := x1.1) (cmp := fun (a0 : Int) (a1 : Int) => m_impl_spread_1 a0 a1 list) (by omega); have hb := stable_mem (R := fun x => 0 ≤ x ∧ x < (list.length : Int)) (data := x1.1) (i := x2.2) (cmp := fun (a0 : Int) (a1 : Int) => m_impl_spread_1 a0 a1 list) (by assumption) (by omega) (by omega); (try dsimp only at hb); first | omega | (dsimp only; omega) | (rw [put_len]; omega))) | ((intro y hy; simp only [List.mem_replicate] at hy; obtain ⟨h1, rfl⟩ := hy; (try dsimp only); omega)) | ((dsimp only; exact put_all (by assumption) (by omega))) | ((have hl := stable_len (data := x1.1) (cmp := fun (a0 : Int) (a1 : Int) => m_impl_spread_1 a0 a1 list) (by omega); first | omega | (dsimp only; omega))), by first | omega | assumption | (simp only [List.length_append, List.length_cons, List.length_nil, List.length_replicate, put_len] at * <;> omega) | ((dsimp only; omega)) | ((have hl := stable_len (data := x1.1) (cmp := fun (a0 : Int) (a1 : Int) => m_impl_spread_1 a0 a1 list) (by omega); have hb := stable_mem (R := fun x => 0 ≤ x ∧ x < (list.length : Int)) (data := x1.1) (i := x2.2) (cmp := fun (a0 : Int) (a1 : Int) => m_impl_spread_1 a0 a1 list) (by assumption) (by omega) (by omega); (try dsimp only at hb); first | omega | (dsimp only; omega) | (rw [put_len]; omega))) | ((intro y hy; simp only [List.mem_replicate] at hy; obtain ⟨h1, rfl⟩ := hy; (try dsimp only); omega)) | ((dsimp only; exact put_all (by assumption) (by omega))) | ((have hl := stable_len (data := x1.1) (cmp := fun (a0 : Int) (a1 : Int) => m_impl_spread_1 a0 a1 list) (by omega); first | omega | (dsimp only; omega))), by first | omega | assumption | (simp only [List.length_append, List.length_cons, List.length_nil, List.length_replicate, put_len] at * <;> omega) | ((dsimp only; omega)) | ((have hl := stable_len (data := x1.1) (cmp := fun (a0 : Int) (a1 : Int) => m_impl_spread_1 a0 a1 list) (by omega); have hb := stable_mem (R := fun x => 0 ≤ x ∧ x < (list.length : Int)) (data := x1.1) (i := x2.2) (cmp := fun (a0 : Int) (a1 : Int) => m_impl_spread_1 a0 a1 list) (by assumption) (by omega) (by omega); (try dsimp only at hb); first | omega | (dsimp only; omega) | (rw [put_len]; omega))) | ((intro y hy; simp only [List.mem_replicate] at hy; obtain ⟨h1, rfl⟩ := hy; (try dsimp only); omega)) | ((dsimp only; exact put_all (by assumption) (by omega))) | ((have hl := stable_len (data := x1.1) (cmp := fun (a0 : Int) (a1 : Int) => m_impl_spread_1 a0 a1 list) (by omega); first | omega | (dsimp only; omega)))⟩ (by first | omega | assumption | (simp only [List.length_append, List.length_cons, List.length_nil, List.length_replicate, put_len] at * <;> omega) | ((dsimp only; omega)) | ((have hl := stable_len (data := x1.1) (cmp := fun (a0 : Int) (a1 : Int) => m_impl_spread_1 a0 a1 list) (by omega); have hb := stable_mem (R := fun x => 0 ≤ x ∧ x < (list.length : Int)) (data := x1.1) (i := x2.2) (cmp := fun (a0 : Int) (a1 : Int) => m_impl_spread_1 a0 a1 list) (by assumption) (by omega) (by omega); (try dsimp only at hb); first | omega | (dsimp only; omega) | (rw [put_len]; omega))) | ((intro y hy; simp only [List.mem_replicate] at hy; obtain ⟨h1, rfl⟩ := hy; (try dsimp only); omega)) | ((dsimp only; exact put_all (by assumption) (by omega))) | ((have hl := stable_len (data := x1.1) (cmp := fun (a0 : Int) (a1 : Int) => m_impl_spread_1 a0 a1 list) (by omega); first | omega | (dsimp only; omega)))) (sub_of [] ⟨rfl, rfl, rfl, rfl, os_len rfl (by first | (simp only [put_len]; done) | (first | omega | assumption | (simp only [List.length_append, List.length_cons, List.length_nil, List.length_replicate, put_len] at * <;> omega) | ((dsimp only; omega)) | ((have hl := stable_len (data := x1.1) (cmp := fun (a0 : Int) (a1 : Int) => m_impl_spread_1 a0 a1 list) (by omega); have hb := stable_mem (R := fun x => 0 ≤ x ∧ x < (list.length : Int)) (data := x1.1) (i := x2.2) (cmp := fun (a0 : Int) (a1 : Int) => m_impl_spread_1 a0 a1 list) (by assumption) (by omega) (by omega); (try dsimp only at hb); first | omega | (dsimp only; omega) | (rw [put_len]; omega))) | ((intro y hy; simp only [List.mem_replicate] at hy; obtain ⟨h1, rfl⟩ := hy; (try dsimp only); omega)) | ((dsimp only; exact put_all (by assumption) (by omega))) | ((have hl := stable_len (data := x1.1) (cmp := fun (a0 : Int) (a1 : Int) => m_impl_spread_1 a0 a1 list) (by omega); first | omega | (dsimp only; omega))))), rfl, rfl, trivial⟩ ⟨rfl, rfl, rfl, trivial⟩ rfl) ?_ ?_
    · intro x2 i10
      obtain ⟨e11, e12, e13, e14, e15⟩ := i10
      try dsimp only at *
      refine run_seq ?_
      refine run_region (q_move .n (.t rfl) rfl <|
          q_assign .n (.t rfl) rfl <|
          q_assign .n (.c rfl) rfl <|
          Lex.nil) ?_
      exact run_ret [(100, 202)] (.cons (.t rfl rfl) (.cons (.t rfl rfl) .nil)) (by first | rfl | (simp only [put_len]; rfl)) ⟨rfl, trivial⟩ rfl
    · intro rec2 k2 hk6 x2 i7
      obtain ⟨e16, e17, e18, e19⟩ := i7
      try dsimp only at *
      refine run_seq ?_
      refine run_region (q_int .n (.t rfl) (.t rfl) rfl rfl <|
          Lex.nil) ?_
      refine run_seq ?_
      refine run_cond (.t rfl) rfl (fun h8 => ?_) (fun h8 => ?_)
      · try simp only [Bool.and_eq_true, Bool.or_eq_true, Bool.not_eq_true', Bool.and_eq_false_iff, Bool.or_eq_false_iff, Bool.not_eq_false', decide_eq_true_eq, decide_eq_false_iff_not, beq_iff_eq, bne_iff_ne, beq_eq_false_iff_ne, bne_eq_false_iff_eq, Bool.true_and, ne_eq, Decidable.not_not, Int.not_lt, Int.not_le, Nat.not_lt, Nat.not_le, strB_nil, strB_nil', strB_nnil, strB_nnil'] at h8
        refine run_skip ?_
        refine run_seq ?_
        refine run_block ?_
        refine run_seq ?_
        refine run_region (q_move .n (.t rfl) rfl <|
            q_idx_ow .n (.t rfl) (.t rfl) sl_140 (fun _ => by first | omega | assumption | (simp only [List.length_append, List.length_cons, List.length_nil, List.length_replicate, put_len] at * <;> omega) | ((dsimp only; omega)) | ((have hl := stable_len (data := x1.1) (cmp := fun (a0 : Int) (a1 : Int) => m_impl_spread_1 a0 a1 list) (by omega); have hb := stable_mem (R := fun x => 0 ≤ x ∧ x < (list.length : Int)) (data := x1.1) (i := x2.2) (cmp := fun (a0 : Int) (a1 : Int) => m_impl_spread_1 a0 a1 list) (by assumption) (by omega) (by omega); (try dsimp only at hb); first | omega | (dsimp only; omega) | (rw [put_len]; omega))) | ((intro y hy; simp only [List.mem_replicate] at hy; obtain ⟨h1, rfl⟩ := hy; (try dsimp only); omega)) | ((dsimp only; exact put_all (by assumption) (by omega))) | ((have hl := stable_len (data := x1.1) (cmp := fun (a0 : Int) (a1 : Int) => m_impl_spread_1 a0 a1 list) (by omega); first | omega | (dsimp only; omega)))) rfl <|
            q_ld1_row .n (.t rfl) rfl (fun _ => by first | omega | assumption | (simp only [List.length_append, List.length_cons, List.length_nil, List.length_replicate, put_len] at * <;> omega) | ((dsimp only; omega)) | ((have hl := stable_len (data := x1.1) (cmp := fun (a0 : Int) (a1 : Int) => m_impl_spread_1 a0 a1 list) (by omega); have hb := stable_mem (R := fun x => 0 ≤ x ∧ x < (list.length : Int)) (data := x1.1) (i := x2.2) (cmp := fun (a0 : Int) (a1 : Int) => m_impl_spread_1 a0 a1 list) (by assumption) (by omega) (by omega); (try dsimp only at hb); first | omega | (dsimp only; omega) | (rw [put_len]; omega))) | ((intro y hy; simp only [List.mem_replicate] at hy; obtain ⟨h1, rfl⟩ := hy; (try dsimp only); omega)) | ((dsimp only; exact put_all (by assumption) (by omega))) | ((have hl := stable_len (data := x1.1) (cmp := fun (a0 : Int) (a1 : Int) => m_impl_spread_1 a0 a1 list) (by omega); first | omega | (dsimp only; omega)))) rfl rfl rfl ic_3 rfl <|
            q_assign .n (.t rfl) rfl <|
            q_assign .n (.t rfl) rfl <|
            Lex.nil) ?_
        refine run_seq ?_
        refine run_region (q_move .n (.t rfl) rfl <|
            q_move .n (.t rfl) rfl <|
            q_move .n (.t rfl) rfl <|
            q_move .n (.t rfl) rfl <|
            q_move .n (.t rfl) rfl <|
            q_quo .n (.t rfl) (.t rfl) (fun hg => by first | omega | assumption | (simp only [List.length_append, List.length_cons, List.length_nil, List.length_replicate, put_len] at * <;> omega) | ((dsimp only; omega)) | ((have hl := stable_len (data := x1.1) (cmp := fun (a0 : Int) (a1 : Int) => m_impl_spread_1 a0 a1 list) (by omega); have hb := stable_mem (R := fun x => 0 ≤ x ∧ x < (list.length : Int)) (data := x1.1) (i := x2.2) (cmp := fun (a0 : Int) (a1 : Int) => m_impl_spread_1 a0 a1 list) (by assumption) (by omega) (by omega); (try dsimp only at hb); first | omega | (dsimp only; omega) | (rw [put_len]; omega))) | ((intro y hy; simp only [List.mem_replicate] at hy; obtain ⟨h1, rfl⟩ := hy; (try dsimp only); omega)) | ((dsimp only; exact put_all (by assumption) (by omega))) | ((have hl := stable_len (data := x1.1) (cmp := fun (a0 : Int) (a1 : Int) => m_impl_spread_1 a0 a1 list) (by omega); first | omega | (dsimp only; omega)))) rfl <|
            q_int .n (.t rfl) (.t rfl) rfl rfl <|
            q_idx_ow .n (.t rfl) (.t rfl) sl_24 (fun _ => by first | omega | assumption | (simp only [List.length_append, List.length_cons, List.length_nil, List.length_replicate, put_len] at * <;> omega) | ((dsimp only; omega)) | ((have hl := stable_len (data := x1.1) (cmp := fun (a0 : Int) (a1 : Int) => m_impl_spread_1 a0 a1 list) (by omega); have hb := stable_mem (R := fun x => 0 ≤ x ∧ x < (list.length : Int)) (data := x1.1) (i := x2.2) (cmp := fun (a0 : Int) (a1 : Int) => m_impl_spread_1 a0 a1 list) (by assumption) (by omega) (by omega); (try dsimp only at hb); first | omega | (dsimp only; omega) | (rw [put_len]; omega))) | ((intro y hy; simp only [List.mem_replicate] at hy; obtain ⟨h1, rfl⟩ := hy; (try dsimp only); omega)) | ((dsimp only; exact put_all (by assumption) (by omega))) | ((have hl := stable_len (data := x1.1) (cmp := fun (a0 : Int) (a1 : Int) => m_impl_spread_1 a0 a1 list) (by omega); first | omega | (dsimp only; omega)))) rfl <|
            q_st_rowm (IntKind.wrap .i64 (from_ + (IntKind.wrap .i64 (Int.tdiv x2.2 perDay)))) .n rfl (.t rfl) (.t rfl) rfl ts_2 (by first | omega | assumption | (simp only [List.length_append, List.length_cons, List.length_nil, List.length_replicate, put_len] at * <;> omega) | ((dsimp only; omega)) | ((have hl := stable_len (data := x1.1) (cmp := fun (a0 : Int) (a1 : Int) => m_impl_spread_1 a0 a1 list) (by omega); have hb := stable_mem (R := fun x => 0 ≤ x ∧ x < (list.length : Int)) (data := x1.1) (i := x2.2) (cmp := fun (a0 : Int) (a1 : Int) => m_impl_spread_1 a0 a1 list) (by assumption) (by omega) (by omega); (try dsimp only at hb); first | omega | (dsimp only; omega) | (rw [put_len]; omega))) | ((intro y hy; simp only [List.mem_replicate] at hy; obtain ⟨h1, rfl⟩ := hy; (try dsimp only); omega)) | ((dsimp only; exact put_all (by assumption) (by omega))) | ((have hl := stable_len (data := x1.1) (cmp := fun (a0 : Int) (a1 : Int) => m_impl_spread_1 a0 a1 list) (by omega); first | omega | (dsimp only; omega)))) rfl rfl <|
            Lex.nil) ?_
        refine run_seq ?_
        refine run_draw fmo (q_move .n (.t rfl) rfl <|
            q_move .n (.t rfl) rfl <|
            q_idx_ow .n (.t rfl) (.t rfl) sl_24 (fun _ => by first | omega | assumption | (simp only [List.length_append, List.length_cons, List.length_nil, List.length_replicate, put_len] at * <;> omega) | ((dsimp only; omega)) | ((have hl := stable_len (data := x1.1) (cmp := fun (a0 : Int) (a1 : Int) => m_impl_spread_1 a0 a1 list) (by omega); have hb := stable_mem (R := fun x => 0 ≤ x ∧ x < (list.length : Int)) (data := x1.1) (i := x2.2) (cmp := fun (a0 : Int) (a1 : Int) => m_impl_spread_1 a0 a1 list) (by assumption) (by omega) (by omega); (try dsimp only at hb); first | omega | (dsimp only; omega) | (rw [put_len]; omega))) | ((intro y hy; simp only [List.mem_replicate] at hy; obtain ⟨h1, rfl⟩ := hy; (try dsimp only); omega)) | ((dsimp only; exact put_all (by assumption) (by omega))) | ((have hl := stable_len (data := x1.1) (cmp := fun (a0 : Int) (a1 : Int) => m_impl_spread_1 a0 a1 list) (by omega); first | omega | (dsimp only; omega)))) rfl <|
            q_ld1_row .n (.t rfl) rfl (fun _ => by first | omega | assumption | (simp only [List.length_append, List.length_cons, List.length_nil, List.length_replicate, put_len] at * <;> omega) | ((dsimp only; omega)) | ((have hl := stable_len (data := x1.1) (cmp := fun (a0 : Int) (a1 : Int) => m_impl_spread_1 a0 a1 list) (by omega); have hb := stable_mem (R := fun x => 0 ≤ x ∧ x < (list.length : Int)) (data := x1.1) (i := x2.2) (cmp := fun (a0 : Int) (a1 : Int) => m_impl_spread_1 a0 a1 list) (by assumption) (by omega) (by omega); (try dsimp only at hb); first | omega | (dsimp only; omega) | (rw [put_len]; omega))) | ((intro y hy; simp only [List.mem_replicate] at hy; obtain ⟨h1, rfl⟩ := hy; (try dsimp only); omega)) | ((dsimp only; exact put_all (by assumption) (by omega))) | ((have hl := stable_len (data := x1.1) (cmp := fun (a0 : Int) (a1 : Int) => m_impl_spread_1 a0 a1 list) (by omega); first | omega | (dsimp only; omega)))) rfl rfl rfl ic_2 rfl <|
            q_ld1_ow .n (.t rfl) rfl (.inr rfl) (fun _ => rfl) rfl ic_27 rfl <|
            q_move .n (.t rfl) rfl <|
            q_idx_rm .n (.t rfl) (.t rfl) sl_27 (fun _ => by first | omega | assumption | (simp only [List.length_append, List.length_cons, List.length_nil, List.length_replicate, put_len] at * <;> omega) | ((dsimp only; omega)) | ((have hl := stable_len (data := x1.1) (cmp := fun (a0 : Int) (a1 : Int) => m_impl_spread_1 a0 a1 list) (by omega); have hb := stable_mem (R := fun x => 0 ≤ x ∧ x < (list.length : Int)) (data := x1.1) (i := x2.2) (cmp := fun (a0 : Int) (a1 : Int) => m_impl_spread_1 a0 a1 list) (by assumption) (by omega) (by omega); (try dsimp only at hb); first | omega | (dsimp only; omega) | (rw [put_len]; omega))) | ((intro y hy; simp only [List.mem_replicate] at hy; obtain ⟨h1, rfl⟩ := hy; (try dsimp only); omega)) | ((dsimp only; exact put_all (by assumption) (by omega))) | ((have hl := stable_len (data := x1.1) (cmp := fun (a0 : Int) (a1 : Int) => m_impl_spread_1 a0 a1 list) (by omega); first | omega | (dsimp only; omega)))) rfl <|
            q_ldN_ro .n (.t rfl) ag_83 rfl rfl rfl <|
            q_call0 (full := false) .n .f en_99 (.cons (.t rfl) .nil) (.cons (.sts rfl) .nil) (fun hg => c_impl_Check_due (at' list (at' (m_slices_SortStableFunc_int x1.1 (fun (a0 : Int) (a1 : Int) => m_impl_spread_1 a0 a1 list)) x2.2))) rfl (fun h => Bool.noConfusion h) rfl <|
            q_int .n (.t rfl) (.t rfl) rfl rfl <|
            Lex.nil) (by kernel_rfl) ?_
        refine run_cond (.t rfl) rfl (fun h9 => ?_) (fun h9 => ?_)
        · try simp only [Bool.and_eq_true, Bool.or_eq_true, Bool.not_eq_true', Bool.and_eq_false_iff, Bool.or_eq_false_iff, Bool.not_eq_false', decide_eq_true_eq, decide_eq_false_iff_not, beq_iff_eq, bne_iff_ne, beq_eq_false_iff_ne, bne_eq_false_iff_eq, Bool.true_and, ne_eq, Decidable.not_not, Int.not_lt, Int.not_le, Nat.not_lt, Nat.not_le, strB_nil, strB_nil', strB_nnil, strB_nnil'] at h9
          refine run_seq ?_
          refine run_region (q_assign .n (.c rfl) rfl <|
              q_assign .n (.c rfl) rfl <|
              Lex.nil) ?_
          refine run_sub (sub_adopt (t := 6) (l := 203) (el := 2) (sz := 1) rfl rfl) ?_
          exact run_ret [(100, 203)] (.cons (.t rfl rfl) (.cons (.t rfl rfl) .nil)) (by first | rfl | (simp only [put_len]; rfl)) ⟨rfl, trivial⟩ rfl
        · try simp only [Bool.and_eq_true, Bool.or_eq_true, Bool.not_eq_true', Bool.and_eq_false_iff, Bool.or_eq_false_iff, Bool.not_eq_false', decide_eq_true_eq, decide_eq_false_iff_not, beq_iff_eq, bne_iff_ne, beq_eq_false_iff_ne, bne_eq_false_iff_eq, Bool.true_and, ne_eq, Decidable.not_not, Int.not_lt, Int.not_le, Nat.not_lt, Nat.not_le, strB_nil, strB_nil', strB_nnil, strB_nnil'] at h9
          refine run_skip ?_
          refine run_endB ?_
          refine run_region (q_add .n (.t rfl) (.c rfl) (fun _ => by first | omega | assumption | (simp only [List.length_append, List.length_cons, List.length_nil, List.length_replicate, put_len] at * <;> omega) | ((dsimp only; omega)) | ((have hl := stable_len (data := x1.1) (cmp := fun (a0 : Int) (a1 : Int) => m_impl_spread_1 a0 a1 list) (by omega); have hb := stable_mem (R := fun x => 0 ≤ x ∧ x < (list.length : Int)) (data := x1.1) (i := x2.2) (cmp := fun (a0 : Int) (a1 : Int) => m_impl_spread_1 a0 a1 list) (by assumption) (by omega) (by omega); (try dsimp only at hb); first | omega | (dsimp only; omega) | (rw [put_len]; omega))) | ((intro y hy; simp only [List.mem_replicate] at hy; obtain ⟨h1, rfl⟩ := hy; (try dsimp only); omega)) | ((dsimp only; exact put_all (by assumption) (by omega))) | ((have hl := stable_len (data := x1.1) (cmp := fun (a0 : Int) (a1 : Int) => m_impl_spread_1 a0 a1 list) (by omega); first | omega | (dsimp only; omega)))) rfl <|
              q_move .n (.t rfl) rfl <|
              Lex.nil) ?_
          exact run_again (put' x2.1 (at' (m_slices_SortStableFunc_int x1.1 (fun (a0 : Int) (a1 : Int) => m_impl_spread_1 a0 a1 list)) x2.2) (IntKind.wrap .i64 (from_ + (IntKind.wrap .i64 (Int.tdiv x2.2 perDay)))), x2.2 + 1) ⟨by first | omega | assumption | (simp only [List.length_append, List.length_cons, List.length_nil, List.length_replicate, put_len] at * <;> omega) | ((dsimp only; omega)) | ((have hl := stable_len (data := x1.1) (cmp := fun (a0 : Int) (a1 : Int) => m_impl_spread_1 a0 a1 list) (by omega); have hb := stable_mem (R := fun x => 0 ≤ x ∧ x < (list.length : Int)) (data := x1.1) (i := x2.2) (cmp := fun (a0 : Int) (a1 : Int) => m_impl_spread_1 a0 a1 list) (by assumption) (by omega) (by omega); (try dsimp only at hb); first | omega | (dsimp only; omega) | (rw [put_len]; omega))) | ((intro y hy; simp only [List.mem_replicate] at hy; obtain ⟨h1, rfl⟩ := hy; (try dsimp only); omega)) | ((dsimp only; exact put_all (by assumption) (by omega))) | ((have hl := stable_len (data := x1.1) (cmp := fun (a0 : Int) (a1 : Int) => m_impl_spread_1 a0 a1 list) (by omega); first | omega | (dsimp only; omega))), by first | omega | assumption | (simp only [List.length_append, List.length_cons, List.length_nil, List.length_replicate, put_len] at * <;> omega) | ((dsimp only; omega)) | ((have hl := stable_len (data := x1.1) (cmp := fun (a0 : Int) (a1 : Int) => m_impl_spread_1 a0 a1 list) (by omega); have hb := stable_mem (R := fun x => 0 ≤ x ∧ x < (list.length : Int)) (data := x1.1) (i := x2.2) (cmp := fun (a0 : Int) (a1 : Int) => m_impl_spread_1 a0 a1 list) (by assumption) (by omega) (by omega); (try dsimp only at hb); first | omega | (dsimp only; omega) | (rw [put_len]; omega))) | ((intro y hy; simp only [List.mem_replicate] at hy; obtain ⟨h1, rfl⟩ := hy; (try dsimp only); omega)) | ((dsimp only; exact put_all (by assumption) (by omega))) | ((have hl := stable_len (data := x1.1) (cmp := fun (a0 : Int) (a1 : Int) => m_impl_spread_1 a0 a1 list) (by omega); first | omega | (dsimp only; omega))), by first | omega | assumption | (simp only [List.length_append, List.length_cons, List.length_nil, List.length_replicate, put_len] at * <;> omega) | ((dsimp only; omega)) | ((have hl := stable_len (data := x1.1) (cmp := fun (a0 : Int) (a1 : Int) => m_impl_spread_1 a0 a1 list) (by omega); have hb := stable_mem (R := fun x => 0 ≤ x ∧ x < (list.length : Int)) (data := x1.1) (i := x2.2) (cmp := fun (a0 : Int) (a1 : Int) => m_impl_spread_1 a0 a1 list) (by assumption) (by omega) (by omega); (try dsimp only at hb); first | omega | (dsimp only; omega) | (rw [put_len]; omega))) | ((intro y hy; simp only [List.mem_replicate] at hy; obtain ⟨h1, rfl⟩ := hy; (try dsimp only); omega)) | ((dsimp only; exact put_all (by assumption) (by omega))) | ((have hl := stable_len (data := x1.1) (cmp := fun (a0 : Int) (a1 : Int) => m_impl_spread_1 a0 a1 list) (by omega); first | omega | (dsimp only; omega))), by first | omega | assumption | (simp only [List.length_append, List.length_cons, List.length_nil, List.length_replicate, put_len] at * <;> omega) | ((dsimp only; omega)) | ((have hl := stable_len (data := x1.1) (cmp := fun (a0 : Int) (a1 : Int) => m_impl_spread_1 a0 a1 list) (by omega); have hb := stable_mem (R := fun x => 0 ≤ x ∧ x < (list.length : Int)) (data := x1.1) (i := x2.2) (cmp := fun (a0 : Int) (a1 : Int) => m_impl_spread_1 a0 a1 list) (by assumption) (by omega) (by omega); (try dsimp only at hb); first | omega | (dsimp only; omega) | (rw [put_len]; omega))) | ((intro y hy; simp only [List.mem_replicate] at hy; obtain ⟨h1, rfl⟩ := hy; (try dsimp only); omega)) | ((dsimp only; exact put_all (by assumption) (by omega))) | ((have hl := stable_len (data := x1.1) (cmp := fun (a0 : Int) (a1 : Int) => m_impl_spread_1 a0 a1 list) (by omega); first | omega | (dsimp only; omega)))⟩ (by first | omega | assumption | (simp only [List.length_append, List.length_cons, List.length_nil, List.length_replicate, put_len] at * <;> omega) | ((dsimp only; omega)) | ((have hl := stable_len (data := x1.1) (cmp := fun (a0 : Int) (a1 : Int) => m_impl_spread_1 a0 a1 list) (by omega); have hb := stable_mem (R := fun x => 0 ≤ x ∧ x < (list.length : Int)) (data := x1.1) (i := x2.2) (cmp := fun (a0 : Int) (a1 : Int) => m_impl_spread_1 a0 a1 list) (by assumption) (by omega) (by omega); (try dsimp only at hb); first | omega | (dsimp only; omega) | (rw [put_len]; omega))) | ((intro y hy; simp only [List.mem_replicate] at hy; obtain ⟨h1, rfl⟩ := hy; (try dsimp only); omega)) | ((dsimp only; exact put_all (by assumption) (by omega))) | ((have hl := stable_len (data := x1.1) (cmp := fun (a0 : Int) (a1 : Int) => m_impl_spread_1 a0 a1 list) (by omega); first | omega | (dsimp only; omega)))) (sub_of [] ⟨rfl, rfl, rfl, os_len rfl (by first | (simp only [put_len]; done) | (first | omega | assumption | (simp only [List.length_append, List.length_cons, List.length_nil, List.length_replicate, put_len] at * <;> omega) | ((dsimp only; omega)) | ((have hl := stable_len (data := x1.1) (cmp := fun (a0 : Int) (a1 : Int) => m_impl_spread_1 a0 a1 list) (by omega); have hb := stable_mem (R := fun x => 0 ≤ x ∧ x < (list.length : Int)) (data := x1.1) (i := x2.2) (cmp := fun (a0 : Int) (a1 : Int) => m_impl_spread_1 a0 a1 list) (by assumption) (by omega) (by omega); (try dsimp only at hb); first | omega | (dsimp only; omega) | (rw [put_len]; omega))) | ((intro y hy; simp only [List.mem_replicate] at hy; obtain ⟨h1, rfl⟩ := hy; (try dsimp only); omega)) | ((dsimp only; exact put_all (by assumption) (by omega))) | ((have hl := stable_len (data := x1.1) (cmp := fun (a0 : Int) (a1 : Int) => m_impl_spread_1 a0 a1 list) (by omega); first | omega | (dsimp only; omega))))), rfl, rfl, rfl, trivial⟩ ⟨rfl, rfl, rfl, trivial⟩ rfl)
      · try simp only [Bool.and_eq_true, Bool.or_eq_true, Bool.not_eq_true', Bool.and_eq_false_iff, Bool.or_eq_false_iff, Bool.not_eq_false', decide_eq_true_eq, decide_eq_false_iff_not, beq_iff_eq, bne_iff_ne, beq_eq_false_iff_ne, bne_eq_false_iff_eq, Bool.true_and, ne_eq, Decidable.not_not, Int.not_lt, Int.not_le, Nat.not_lt, Nat.not_le, strB_nil, strB_nil', strB_nnil, strB_nnil'] at h8
        refine run_exit rfl ?_
        exact run_cont hk6 (x2.1, x2.2) ⟨by first | omega | assumption | (simp only [List.length_append, List.length_cons, List.length_nil, List.length_replicate, put_len] at * <;> omega) | ((dsimp only; omega)) | ((have hl := stable_len (data := x1.1) (cmp := fun (a0 : Int) (a1 : Int) => m_impl_spread_1 a0 a1 list) (by omega); have hb := stable_mem (R := fun x => 0 ≤ x ∧ x < (list.length : Int)) (data := x1.1) (i := x2.2) (cmp := fun (a0 : Int) (a1 : Int) => m_impl_spread_1 a0 a1 list) (by assumption) (by omega) (by omega); (try dsimp only at hb); first | omega | (dsimp only; omega) | (rw [put_len]; omega))) | ((intro y hy; simp only [List.mem_replicate] at hy; obtain ⟨h1, rfl⟩ := hy; (try dsimp only); omega)) | ((dsimp only; exact put_all (by assumption) (by omega))) | ((have hl := stable_len (data := x1.1) (cmp := fun (a0 : Int) (a1 : Int) => m_impl_spread_1 a0 a1 list) (by omega); first | omega | (dsimp only; omega))), by first | omega | assumption | (simp only [List.length_append, List.length_cons, List.length_nil, List.length_replicate, put_len] at * <;> omega) | ((dsimp only; omega)) | ((have hl := stable_len (data := x1.1) (cmp := fun (a0 : Int) (a1 : Int) => m_impl_spread_1 a0 a1 list) (by omega); have hb := stable_mem (R := fun x => 0 ≤ x ∧ x < (list.length : Int)) (data := x1.1) (i := x2.2) (cmp := fun (a0 : Int) (a1 : Int) => m_impl_spread_1 a0 a1 list) (by assumption) (by omega) (by omega); (try dsimp only at hb); first | omega | (dsimp only; omega) | (rw [put_len]; omega))) | ((intro y hy; simp only [List.mem_replicate] at hy; obtain ⟨h1, rfl⟩ := hy; (try dsimp only); omega)) | ((dsimp only; exact put_all (by assumption) (by omega))) | ((have hl := stable_len (data := x1.1) (cmp := fun (a0 : Int) (a1 : Int) => m_impl_spread_1 a0 a1 list) (by omega); first | omega | (dsimp only; omega))), by first | omega | assumption | (simp only [List.length_append, List.length_cons, List.length_nil, List.length_replicate, put_len] at * <;> omega) | ((dsimp only; omega)) | ((have hl := stable_len (data := x1.1) (cmp := fun (a0 : Int) (a1 : Int) => m_impl_spread_1 a0 a1 list) (by omega); have hb := stable_mem (R := fun x => 0 ≤ x ∧ x < (list.length : Int)) (data := x1.1) (i := x2.2) (cmp := fun (a0 : Int) (a1 : Int) => m_impl_spread_1 a0 a1 list) (by assumption) (by omega) (by omega); (try dsimp only at hb); first | omega | (dsimp only; omega) | (rw [put_len]; omega))) | ((intro y hy; simp only [List.mem_replicate] at hy; obtain ⟨h1, rfl⟩ := hy; (try dsimp only); omega)) | ((dsimp only; exact put_all (by assumption) (by omega))) | ((have hl := stable_len (data := x1.1) (cmp := fun (a0 : Int) (a1 : Int) => m_impl_spread_1 a0 a1 list) (by omega); first | omega | (dsimp only; omega))), by first | omega | assumption | (simp only [List.length_append, List.length_cons, List.length_nil, List.length_replicate, put_len] at * <;> omega) | ((dsimp only; omega)) | ((have hl := stable_len (data := x1.1) (cmp := fun (a0 : Int) (a1 : Int) => m_impl_spread_1 a0 a1 list) (by omega); have hb := stable_mem (R := fun x => 0 ≤ x ∧ x < (list.length : Int)) (data := x1.1) (i := x2.2) (cmp := fun (a0 : Int) (a1 : Int) => m_impl_spread_1 a0 a1 list) (by assumption) (by omega) (by omega); (try dsimp only at hb); first | omega | (dsimp only; omega) | (rw [put_len]; omega))) | ((intro y hy; simp only [List.mem_replicate] at hy; obtain ⟨h1, rfl⟩ := hy; (try dsimp only); omega)) | ((dsimp only; exact put_all (by assumption) (by omega))) | ((have hl := stable_len (data := x1.1) (cmp := fun (a0 : Int) (a1 : Int) => m_impl_spread_1 a0 a1 list) (by omega); first | omega | (dsimp only; omega))), by first | omega | assumption | (simp only [List.length_append, List.length_cons, List.length_nil, List.length_replicate, put_len] at * <;> omega) | ((dsimp only; omega)) | ((have hl := stable_len (data := x1.1) (cmp := fun (a0 : Int) (a1 : Int) => m_impl_spread_1 a0 a1 list) (by omega); have hb := stable_mem (R := fun x => 0 ≤ x ∧ x < (list.length : Int)) (data := x1.1) (i := x2.2) (cmp := fun (a0 : Int) (a1 : Int) => m_impl_spread_1 a0 a1 list) (by assumption) (by omega) (by omega); (try dsimp only at hb); first | omega | (dsimp only; omega) | (rw [put_len]; omega))) | ((intro y hy; simp only [List.mem_replicate] at hy; obtain ⟨h1, rfl⟩ := hy; (try dsimp only); omega)) | ((dsimp only; exact put_all (by assumption) (by omega))) | ((have hl := stable_len (data := x1.1) (cmp := fun (a0 : Int) (a1 : Int) => m_impl_spread_1 a0 a1 list) (by omega); first | omega | (dsimp only; omega)))⟩ (sub_of [] ⟨rfl, trivial⟩ ⟨rfl, trivial⟩ rfl)
  · intro rec1 k1 hk2 x1 i3
    obtain ⟨e26, e27, e28, e29, e30⟩ := i3
    try dsimp only at *
    refine run_seq ?_
    refine run_region (q_int .n (.t rfl) (.t rfl) rfl rfl <|
        Lex.nil) ?_
    refine run_seq ?_
    refine run_cond (.t rfl) rfl (fun h4 => ?_) (fun h4 => ?_)
    · try simp only [Bool.and_eq_true, Bool.or_eq_true, Bool.not_eq_true', Bool.and_eq_false_iff, Bool.or_eq_false_iff, Bool.not_eq_false', decide_eq_true_eq, decide_eq_false_iff_not, beq_iff_eq, bne_iff_ne, beq_eq_false_iff_ne, bne_eq_false_iff_eq, Bool.true_and, ne_eq, Decidable.not_not, Int.not_lt, Int.not_le, Nat.not_lt, Nat.not_le, strB_nil, strB_nil', strB_nnil, strB_nnil'] at h4
      refine run_skip ?_
      refine run_seq ?_
      refine run_block ?_
      refine run_seq ?_
      refine run_region (q_move .n (.t rfl) rfl <|
          q_assign .n (.t rfl) rfl <|
          Lex.nil) ?_
      refine run_region (q_move .n (.t rfl) rfl <|
          q_move .n (.t rfl) rfl <|
          q_move .n (.t rfl) rfl <|
          q_idx_ow .n (.t rfl) (.t rfl) sl_140 (fun _ => by first | omega | assumption | (simp only [List.length_append, List.length_cons, List.length_nil, List.length_replicate, put_len] at * <;> omega) | ((dsimp only; omega)) | ((have hl := stable_len (data := x1.1) (cmp := fun (a0 : Int) (a1 : Int) => m_impl_spread_1 a0 a1 list) (by omega); have hb := stable_mem (R := fun x => 0 ≤ x ∧ x < (list.length : Int)) (data := x1.1) (i := x2.2) (cmp := fun (a0 : Int) (a1 : Int) => m_impl_spread_1 a0 a1 list) (by assumption) (by omega) (by omega); (try dsimp only at hb); first | omega | (dsimp only; omega) | (rw [put_len]; omega))) | ((intro y hy; simp only [List.mem_replicate] at hy; obtain ⟨h1, rfl⟩ := hy; (try dsimp only); omega)) | ((dsimp only; exact put_all (by assumption) (by omega))) | ((have hl := stable_len (data := x1.1) (cmp := fun (a0 : Int) (a1 : Int) => m_impl_spread_1 a0 a1 list) (by omega); first | omega | (dsimp only; omega)))) rfl <|
          q_st_rowm x1.2 .n rfl (.t rfl) (.t rfl) rfl ts_3 (by first | omega | assumption | (simp only [List.length_append, List.length_cons, List.length_nil, List.length_replicate, put_len] at * <;> omega) | ((dsimp only; omega)) | ((have hl := stable_len (data := x1.1) (cmp := fun (a0 : Int) (a1 : Int) => m_impl_spread_1 a0 a1 list) (by omega); have hb := stable_mem (R := fun x => 0 ≤ x ∧ x < (list.length : Int)) (data := x1.1) (i := x2.2) (cmp := fun (a0 : Int) (a1 : Int) => m_impl_spread_1 a0 a1 list) (by assumption) (by omega) (by omega); (try dsimp only at hb); first | omega | (dsimp only; omega) | (rw [put_len]; omega))) | ((intro y hy; simp only [List.mem_replicate] at hy; obtain ⟨h1, rfl⟩ := hy; (try dsimp only); omega)) | ((dsimp only; exact put_all (by assumption) (by omega))) | ((have hl := stable_len (data := x1.1) (cmp := fun (a0 : Int) (a1 : Int) => m_impl_spread_1 a0 a1 list) (by omega); first | omega | (dsimp only; omega)))) rfl rfl <|
          Lex.nil) ?_
      refine run_endB ?_
      refine run_region (q_add .n (.t rfl) (.c rfl) (fun _ => by first | omega | assumption | (simp only [List.length_append, List.length_cons, List.length_nil, List.length_replicate, put_len] at * <;> omega) | ((dsimp only; omega)) | ((have hl := stable_len (data := x1.1) (cmp := fun (a0 : Int) (a1 : Int) => m_impl_spread_1 a0 a1 list) (by omega); have hb := stable_mem (R := fun x => 0 ≤ x ∧ x < (list.length : Int)) (data := x1.1) (i := x2.2) (cmp := fun (a0 : Int) (a1 : Int) => m_impl_spread_1 a0 a1 list) (by assumption) (by omega) (by omega); (try dsimp only at hb); first | omega | (dsimp only; omega) | (rw [put_len]; omega))) | ((intro y hy; simp only [List.mem_replicate] at hy; obtain ⟨h1, rfl⟩ := hy; (try dsimp only); omega)) | ((dsimp only; exact put_all (by assumption) (by omega))) | ((have hl := stable_len (data := x1.1) (cmp := fun (a0 : Int) (a1 : Int) => m_impl_spread_1 a0 a1 list) (by omega); first | omega | (dsimp only; omega)))) rfl <|
          q_move .n (.t rfl) rfl <|
          Lex.nil) ?_
      exact run_again (put' x1.1 x1.2 x1.2, x1.2 + 1) ⟨by first | omega | assumption | (simp only [List.length_append, List.length_cons, List.length_nil, List.length_replicate, put_len] at * <;> omega) | ((dsimp only; omega)) | ((have hl := stable_len (data := x1.1) (cmp := fun (a0 : Int) (a1 : Int) => m_impl_spread_1 a0 a1 list) (by omega); have hb := stable_mem (R := fun x => 0 ≤ x ∧ x < (list.length : Int)) (data := x1.1) (i := x2.2) (cmp := fun (a0 : Int) (a1 : Int) => m_impl_spread_1 a0 a1 list) (by assumption) (by omega) (by omega); (try dsimp only at hb); first | omega | (dsimp only; omega) | (rw [put_len]; omega))) | ((intro y hy; simp only [List.mem_replicate] at hy; obtain ⟨h1, rfl⟩ := hy; (try dsimp only); omega)) | ((dsimp only; exact put_all (by assumption) (by omega))) | ((have hl := stable_len (data := x1.1) (cmp := fun (a0 : Int) (a1 : Int) => m_impl_spread_1 a0 a1 list) (by omega); first | omega | (dsimp only; omega))), by first | omega | assumption | (simp only [List.length_append, List.length_cons, List.length_nil, List.length_replicate, put_len] at * <;> omega) | ((dsimp only; omega)) | ((have hl := stable_len (data := x1.1) (cmp := fun (a0 : Int) (a1 : Int) => m_impl_spread_1 a0 a1 list) (by omega); have hb := stable_mem (R := fun x => 0 ≤ x ∧ x < (list.length : Int)) (data := x1.1) (i := x2.2) (cmp := fun (a0 : Int) (a1 : Int) => m_impl_spread_1 a0 a1 list) (by assumption) (by omega) (by omega); (try dsimp only at hb); first | omega | (dsimp only; omega) | (rw [put_len]; omega))) | ((intro y hy; simp only [List.mem_replicate] at hy; obtain ⟨h1, rfl⟩ := hy; (try dsimp only); omega)) | ((dsimp only; exact put_all (by assumption) (by omega))) | ((have hl := stable_len (data := x1.1) (cmp := fun (a0 : Int) (a1 : Int) => m_impl_spread_1 a0 a1 list) (by omega); first | omega | (dsimp only; omega))), by first | omega | assumption | (simp only [List.length_append, List.length_cons, List.length_nil, List.length_replicate, put_len] at * <;> omega) | ((dsimp only; omega)) | ((have hl := stable_len (data := x1.1) (cmp := fun (a0 : Int) (a1 : Int) => m_impl_spread_1 a0 a1 list) (by omega); have hb := stable_mem (R := fun x => 0 ≤ x ∧ x < (list.length : Int)) (data := x1.1) (i := x2.2) (cmp := fun (a0 : Int) (a1 : Int) => m_impl_spread_1 a0 a1 list) (by assumption) (by omega) (by omega); (try dsimp only at hb); first | omega | (dsimp only; omega) | (rw [put_len]; omega))) | ((intro y hy; simp only [List.mem_replicate] at hy; obtain ⟨h1, rfl⟩ := hy; (try dsimp only); omega)) | ((dsimp only; exact put_all (by assumption) (by omega))) | ((have hl := stable_len (data := x1.1) (cmp := fun (a0 : Int) (a1 : Int) => m_impl_spread_1 a0 a1 list) (by omega); first | omega | (dsimp only; omega))), by first | omega | assumption | (simp only [List.length_append, List.length_cons, List.length_nil, List.length_replicate, put_len] at * <;> omega) | ((dsimp only; omega)) | ((have hl := stable_len (data := x1.1) (cmp := fun (a0 : Int) (a1 : Int) => m_impl_spread_1 a0 a1 list) (by omega); have hb := stable_mem (R := fun x => 0 ≤ x ∧ x < (list.length : Int)) (data := x1.1) (i := x2.2) (cmp := fun (a0 : Int) (a1 : Int) => m_impl_spread_1 a0 a1 list) (by assumption) (by omega) (by omega); (try dsimp only at hb); first | omega | (dsimp only; omega) | (rw [put_len]; omega))) | ((intro y hy; simp only [List.mem_replicate] at hy; obtain ⟨h1, rfl⟩ := hy; (try dsimp only); omega)) | ((dsimp only; exact put_all (by assumption) (by omega))) | ((have hl := stable_len (data := x1.1) (cmp := fun (a0 : Int) (a1 : Int) => m_impl_spread_1 a0 a1 list) (by omega); first | omega | (dsimp only; omega))), by first | omega | assumption | (simp only [List.length_append, List.length_cons, List.length_nil, List.length_replicate, put_len] at * <;> omega) | ((dsimp only; omega)) | ((have hl := stable_len (data := x1.1) (cmp := fun (a0 : Int) (a1 : Int) => m_impl_spread_1 a0 a1 list) (by omega); have hb := stable_mem (R := fun x => 0 ≤ x ∧ x < (list.length : Int)) (data := x1.1) (i := x2.2) (cmp := fun (a0 : Int) (a1 : Int) => m_impl_spread_1 a0 a1 list) (by assumption) (by omega) (by omega); (try dsimp only at hb); first | omega | (dsimp only; omega) | (rw [put_len]; omega))) | ((intro y hy; simp only [List.mem_replicate] at hy; obtain ⟨h1, rfl⟩ := hy; (try dsimp only); omega)) | ((dsimp only; exact put_all (by assumption) (by omega))) | ((have hl := stable_len (data := x1.1) (cmp := fun (a0 : Int) (a1 : Int) => m_impl_spread_1 a0 a1 list) (by omega); first | omega | (dsimp only; omega)))⟩ (by first | omega | assumption | (simp only [List.length_append, List.length_cons, List.length_nil, List.length_replicate, put_len] at * <;> omega) | ((dsimp only; omega)) | ((have hl := stable_len (data := x1.1) (cmp := fun (a0 : Int) (a1 : Int) => m_impl_spread_1 a0 a1 list) (by omega); have hb := stable_mem (R := fun x => 0 ≤ x ∧ x < (list.length : Int)) (data := x1.1) (i := x2.2) (cmp := fun (a0 : Int) (a1 : Int) => m_impl_spread_1 a0 a1 list) (by assumption) (by omega) (by omega); (try dsimp only at hb); first | omega | (dsimp only; omega) | (rw [put_len]; omega))) | ((intro y hy; simp only [List.mem_replicate] at hy; obtain ⟨h1, rfl⟩ := hy; (try dsimp only); omega)) | ((dsimp only; exact put_all (by assumption) (by omega))) | ((have hl := stable_len (data := x1.1) (cmp := fun (a0 : Int) (a1 : Int) => m_impl_spread_1 a0 a1 list) (by omega); first | omega | (dsimp only; omega)))) (sub_of [] ⟨rfl, rfl, rfl, os_len rfl (by first | (simp only [put_len]; done) | (first | omega | assumption | (simp only [List.length_append, List.length_cons, List.length_nil, List.length_replicate, put_len] at * <;> omega) | ((dsimp only; omega)) | ((have hl := stable_len (data := x1.1) (cmp := fun (a0 : Int) (a1 : Int) => m_impl_spread_1 a0 a1 list) (by omega); have hb := stable_mem (R := fun x => 0 ≤ x ∧ x < (list.length : Int)) (data := x1.1) (i := x2.2) (cmp := fun (a0 : Int) (a1 : Int) => m_impl_spread_1 a0 a1 list) (by assumption) (by omega) (by omega); (try dsimp only at hb); first | omega | (dsimp only; omega) | (rw [put_len]; omega))) | ((intro y hy; simp only [List.mem_replicate] at hy; obtain ⟨h1, rfl⟩ := hy; (try dsimp only); omega)) | ((dsimp only; exact put_all (by assumption) (by omega))) | ((have hl := stable_len (data := x1.1) (cmp := fun (a0 : Int) (a1 : Int) => m_impl_spread_1 a0 a1 list) (by omega); first | omega | (dsimp only; omega))))), rfl, rfl, trivial⟩ ⟨rfl, rfl, trivial⟩ rfl)
    · try simp only [Bool.and_eq_true, Bool.or_eq_true, Bool.not_eq_true', Bool.and_eq_false_iff, Bool.or_eq_false_iff, Bool.not_eq_false', decide_eq_true_eq, decide_eq_false_iff_not, beq_iff_eq, bne_iff_ne, beq_eq_false_iff_ne, bne_eq_false_iff_eq, Bool.true_and, ne_eq, Decidable.not_not, Int.not_lt, Int.not_le, Nat.not_lt, Nat.not_le, strB_nil, strB_nil', strB_nnil, strB_nnil'] at h4
      refine run_exit rfl ?_
      exact run_cont hk2 (x1.1, x1.2) ⟨by first | omega | assumption | (simp only [List.length_append, List.length_cons, List.length_nil, List.length_replicate, put_len] at * <;> omega) | ((dsimp only; omega)) | ((have hl := stable_len (data := x1.1) (cmp := fun (a0 : Int) (a1 : Int) => m_impl_spread_1 a0 a1 list) (by omega); have hb := stable_mem (R := fun x => 0 ≤ x ∧ x < (list.length : Int)) (data := x1.1) (i := x2.2) (cmp := fun (a0 : Int) (a1 : Int) => m_impl_spread_1 a0 a1 list) (by assumption) (by omega) (by omega); (try dsimp only at hb); first | omega | (dsimp only; omega) | (rw [put_len]; omega))) | ((intro y hy; simp only [List.mem_replicate] at hy; obtain ⟨h1, rfl⟩ := hy; (try dsimp only); omega)) | ((dsimp only; exact put_all (by assumption) (by omega))) | ((have hl := stable_len (data := x1.1) (cmp := fun (a0 : Int) (a1 : Int) => m_impl_spread_1 a0 a1 list) (by omega); first | omega | (dsimp only; omega))), by first | omega | assumption | (simp only [List.length_append, List.length_cons, List.length_nil, List.length_replicate, put_len] at * <;> omega) | ((dsimp only; omega)) | ((have hl := stable_len (data := x1.1) (cmp := fun (a0 : Int) (a1 : Int) => m_impl_spread_1 a0 a1 list) (by omega); have hb := stable_mem (R := fun x => 0 ≤ x ∧ x < (list.length : Int)) (data := x1.1) (i := x2.2) (cmp := fun (a0 : Int) (a1 : Int) => m_impl_spread_1 a0 a1 list) (by assumption) (by omega) (by omega); (try dsimp only at hb); first | omega | (dsimp only; omega) | (rw [put_len]; omega))) | ((intro y hy; simp only [List.mem_replicate] at hy; obtain ⟨h1, rfl⟩ := hy; (try dsimp only); omega)) | ((dsimp only; exact put_all (by assumption) (by omega))) | ((have hl := stable_len (data := x1.1) (cmp := fun (a0 : Int) (a1 : Int) => m_impl_spread_1 a0 a1 list) (by omega); first | omega | (dsimp only; omega))), by first | omega | assumption | (simp only [List.length_append, List.length_cons, List.length_nil, List.length_replicate, put_len] at * <;> omega) | ((dsimp only; omega)) | ((have hl := stable_len (data := x1.1) (cmp := fun (a0 : Int) (a1 : Int) => m_impl_spread_1 a0 a1 list) (by omega); have hb := stable_mem (R := fun x => 0 ≤ x ∧ x < (list.length : Int)) (data := x1.1) (i := x2.2) (cmp := fun (a0 : Int) (a1 : Int) => m_impl_spread_1 a0 a1 list) (by assumption) (by omega) (by omega); (try dsimp only at hb); first | omega | (dsimp only; omega) | (rw [put_len]; omega))) | ((intro y hy; simp only [List.mem_replicate] at hy; obtain ⟨h1, rfl⟩ := hy; (try dsimp only); omega)) | ((dsimp only; exact put_all (by assumption) (by omega))) | ((have hl := stable_len (data := x1.1) (cmp := fun (a0 : Int) (a1 : Int) => m_impl_spread_1 a0 a1 list) (by omega); first | omega | (dsimp only; omega))), by first | omega | assumption | (simp only [List.length_append, List.length_cons, List.length_nil, List.length_replicate, put_len] at * <;> omega) | ((dsimp only; omega)) | ((have hl := stable_len (data := x1.1) (cmp := fun (a0 : Int) (a1 : Int) => m_impl_spread_1 a0 a1 list) (by omega); have hb := stable_mem (R := fun x => 0 ≤ x ∧ x < (list.length : Int)) (data := x1.1) (i := x2.2) (cmp := fun (a0 : Int) (a1 : Int) => m_impl_spread_1 a0 a1 list) (by assumption) (by omega) (by omega); (try dsimp only at hb); first | omega | (dsimp only; omega) | (rw [put_len]; omega))) | ((intro y hy; simp only [List.mem_replicate] at hy; obtain ⟨h1, rfl⟩ := hy; (try dsimp only); omega)) | ((dsimp only; exact put_all (by assumption) (by omega))) | ((have hl := stable_len (data := x1.1) (cmp := fun (a0 : Int) (a1 : Int) => m_impl_spread_1 a0 a1 list) (by omega); first | omega | (dsimp only; omega))), by first | omega | assumption | (simp only [List.length_append, List.length_cons, List.length_nil, List.length_replicate, put_len] at * <;> omega) | ((dsimp only; omega)) | ((have hl := stable_len (data := x1.1) (cmp := fun (a0 : Int) (a1 : Int) => m_impl_spread_1 a0 a1 list) (by omega); have hb := stable_mem (R := fun x => 0 ≤ x ∧ x < (list.length : Int)) (data := x1.1) (i := x2.2) (cmp := fun (a0 : Int) (a1 : Int) => m_impl_spread_1 a0 a1 list) (by assumption) (by omega) (by omega); (try dsimp only at hb); first | omega | (dsimp only; omega) | (rw [put_len]; omega))) | ((intro y hy; simp only [List.mem_replicate] at hy; obtain ⟨h1, rfl⟩ := hy; (try dsimp only); omega)) | ((dsimp only; exact put_all (by assumption) (by omega))) | ((have hl := stable_len (data := x1.1) (cmp := fun (a0 : Int) (a1 : Int) => m_impl_spread_1 a0 a1 list) (by omega); first | omega | (dsimp only; omega))), by first | omega | assumption | (simp only [List.length_append, List.length_cons, List.length_nil, List.length_replicate, put_len] at * <;> omega) | ((dsimp only; omega)) | ((have hl := stable_len (data := x1.1) (cmp := fun (a0 : Int) (a1 : Int) => m_impl_spread_1 a0 a1 list) (by omega); have hb := stable_mem (R := fun x => 0 ≤ x ∧ x < (list.length : Int)) (data := x1.1) (i := x2.2) (cmp := fun (a0 : Int) (a1 : Int) => m_impl_spread_1 a0 a1 list) (by assumption) (by omega) (by omega); (try dsimp only at hb); first | omega | (dsimp only; omega) | (rw [put_len]; omega))) | ((intro y hy; simp only [List.mem_replicate] at hy; obtain ⟨h1, rfl⟩ := hy; (try dsimp only); omega)) | ((dsimp only; exact put_all (by assumption) (by omega))) | ((have hl := stable_len (data := x1.1) (cmp := fun (a0 : Int) (a1 : Int) => m_impl_spread_1 a0 a1 list) (by omega); first | omega | (dsimp only; omega)))⟩ (sub_of [] ⟨rfl, rfl, rfl, rfl, trivial⟩ ⟨rfl, rfl, trivial⟩ rfl)

/-! ### impl_SpreadChecks -/
theorem c_impl_SpreadChecks (list : List gCheck) (from_ : Int) (perDay : Int) : Con Try.prog 10 [.sl 3 (list.map gCheck.v), .int .i64 from_, .int .i64 perDay] [] (.tup [.os 100 (m_impl_SpreadChecks list from_ perDay).1.length, .int .i64 (m_impl_SpreadChecks list from_ perDay).2]) ([(100, some (.row 2 1 ((m_impl_SpreadChecks list from_ perDay).1.map (V.int .i64))))]) := by
  refine con_intro (out := fun r : (List Int) × Int => ((.tup [.os 100 r.1.length, .int .i64 r.2] : V), ([(100, some (.row 2 1 (r.1.map (V.int .i64))))] : List (Nat × Option O)))) (r := (m_impl_SpreadChecks list from_ perDay)) Try.func10 rfl Try.ntmps10 rfl ?_
  refine run_fact (t := 0) rfl fun hl => ?_
  have l1 := hl; clear hl; simp only [List.length_map] at l1
  refine run_seq ?_
  refine run_region (q_assign .n (.c rfl) rfl <|
      q_assign .n (.c rfl) rfl <|
      Lex.nil) ?_
  refine run_seq ?_
  refine run_block ?_
  refine run_seq ?_
  refine run_region (q_move .n (.t rfl) rfl <|
      q_call0 (full := false) .n .f en_48 (.cons (.t rfl) .nil) (.cons (.b (.a (.same rfl))) .nil) (fun hg => c_impl_ValidChecks list) rfl (fun h => Bool.noConfusion h) rfl <|
      q_not .n (.t rfl) rfl <|
      q_assign .n (.t rfl) rfl <|
      Lex.nil) ?_
  refine run_cond (.t rfl) rfl (fun h2 => ?_) (fun h2 => ?_)
  · try simp only [Bool.and_eq_true, Bool.or_eq_true, Bool.not_eq_true', Bool.and_eq_false_iff, Bool.or_eq_false_iff, Bool.not_eq_false', decide_eq_true_eq, decide_eq_false_iff_not, beq_iff_eq, bne_iff_ne, beq_eq_false_iff_ne, bne_eq_false_iff_eq, Bool.true_and, ne_eq, Decidable.not_not, Int.not_lt, Int.not_le, Nat.not_lt, Nat.not_le, strB_nil, strB_nil', strB_nnil, strB_nnil'] at h2
    try have hf0h2 := ckVal_impA h2
    try have hf1h2 := ckVal_impA h2.1
    try have hf2h2 := ckVal_impA h2.2
    try have hf3h2 := ckVal_impA h2.1.1
    try have hf4h2 := ckVal_impA h2.1.2
    try have hf5h2 := ckVal_impA h2.2.1
    try have hf6h2 := ckVal_impA h2.2.2
    try have hf7h2 := ckVal_impB h2
    try have hf8h2 := ckVal_impB h2.1
    try have hf9h2 := ckVal_impB h2.2
    try have hf10h2 := ckVal_impB h2.1.1
    try have hf11h2 := ckVal_impB h2.1.2
    try have hf12h2 := ckVal_impB h2.2.1
    try have hf13h2 := ckVal_impB h2.2.2
    refine run_seq ?_
    refine run_region (q_assign .n (.c rfl) rfl <|
        q_assign .n (.c rfl) rfl <|
        Lex.nil) ?_
    refine run_sub (sub_adopt (t := 6) (l := 200) (el := 2) (sz := 1) rfl rfl) ?_
    exact run_ret [(100, 200)] (.cons (.t rfl rfl) (.cons (.t rfl rfl) .nil)) (by first | rfl | (simp only [put_len]; rfl)) ⟨rfl, trivial⟩ rfl
  · try simp only [Bool.and_eq_true, Bool.or_eq_true, Bool.not_eq_true', Bool.and_eq_false_iff, Bool.or_eq_false_iff, Bool.not_eq_false', decide_eq_true_eq, decide_eq_false_iff_not, beq_iff_eq, bne_iff_ne, beq_eq_false_iff_ne, bne_eq_false_iff_eq, Bool.true_and, ne_eq, Decidable.not_not, Int.not_lt, Int.not_le, Nat.not_lt, Nat.not_le, strB_nil, strB_nil', strB_nnil, strB_nnil'] at h2
    try have hf0h2 := ckVal_impA h2
    try have hf1h2 := ckVal_impA h2.1
    try have hf2h2 := ckVal_impA h2.2
    try have hf3h2 := ckVal_impA h2.1.1
    try have hf4h2 := ckVal_impA h2.1.2
    try have hf5h2 := ckVal_impA h2.2.1
    try have hf6h2 := ckVal_impA h2.2.2
    try have hf7h2 := ckVal_impB h2
    try have hf8h2 := ckVal_impB h2.1
    try have hf9h2 := ckVal_impB h2.2
    try have hf10h2 := ckVal_impB h2.1.1
    try have hf11h2 := ckVal_impB h2.1.2
    try have hf12h2 := ckVal_impB h2.2.1
    try have hf13h2 := ckVal_impB h2.2.2
    refine run_seq ?_
    refine run_region (q_move .n (.t rfl) rfl <|
        q_call0 (full := false) .n .f en_49 (.cons (.t rfl) .nil) (.cons (.b (.a (.same rfl))) .nil) (fun hg => c_impl_checkDay from_) rfl (fun h => Bool.noConfusion h) rfl <|
        q_not .n (.t rfl) rfl <|
        q_move .n (.t rfl) rfl <|
        q_move (.f rfl rfl) (.t rfl) rfl <|
        q_call0 (full := false) (.f rfl rfl) .f en_50 (.cons (.u rfl id) (.cons (.c rfl) (.cons (.c rfl) .nil))) (.cons (.b (.a (.same rfl))) (.cons (.b (.a (.same rfl))) (.cons (.b (.a (.same rfl))) .nil))) (fun hg => c_impl_within perDay 1 16) rfl (fun h => Bool.noConfusion h) rfl <|
        q_not (.f rfl rfl) (.u rfl id) rfl <|
        q_or .n (.t rfl) (.u rfl id) rfl <|
        q_assign .n (.t rfl) rfl <|
        Lex.nil) ?_
    refine run_cond (.t rfl) rfl (fun h3 => ?_) (fun h3 => ?_)
    · try simp only [Bool.and_eq_true, Bool.or_eq_true, Bool.not_eq_true', Bool.and_eq_false_iff, Bool.or_eq_false_iff, Bool.not_eq_false', decide_eq_true_eq, decide_eq_false_iff_not, beq_iff_eq, bne_iff_ne, beq_eq_false_iff_ne, bne_eq_false_iff_eq, Bool.true_and, ne_eq, Decidable.not_not, Int.not_lt, Int.not_le, Nat.not_lt, Nat.not_le, strB_nil, strB_nil', strB_nnil, strB_nnil'] at h3
      try have hf0h3 := within_imp h3
      try have hf1h3 := within_imp h3.1
      try have hf2h3 := within_imp h3.2
      try have hf3h3 := within_imp h3.1.1
      try have hf4h3 := within_imp h3.1.2
      try have hf5h3 := within_imp h3.2.1
      try have hf6h3 := within_imp h3.2.2
      try have hf7h3 := ckDayI_imp h3
      try have hf8h3 := ckDayI_imp h3.1
      try have hf9h3 := ckDayI_imp h3.2
      try have hf10h3 := ckDayI_imp h3.1.1
      try have hf11h3 := ckDayI_imp h3.1.2
      try have hf12h3 := ckDayI_imp h3.2.1
      try have hf13h3 := ckDayI_imp h3.2.2
      refine run_seq ?_
      refine run_region (q_assign .n (.c rfl) rfl <|
          q_assign .n (.c rfl) rfl <|
          Lex.nil) ?_
      refine run_sub (sub_adopt (t := 6) (l := 201) (el := 2) (sz := 1) rfl rfl) ?_
      exact run_ret [(100, 201)] (.cons (.t rfl rfl) (.cons (.t rfl rfl) .nil)) (by first | rfl | (simp only [put_len]; rfl)) ⟨rfl, trivial⟩ rfl
    · try simp only [Bool.and_eq_true, Bool.or_eq_true, Bool.not_eq_true', Bool.and_eq_false_iff, Bool.or_eq_false_iff, Bool.not_eq_false', decide_eq_true_eq, decide_eq_false_iff_not, beq_iff_eq, bne_iff_ne, beq_eq_false_iff_ne, bne_eq_false_iff_eq, Bool.true_and, ne_eq, Decidable.not_not, Int.not_lt, Int.not_le, Nat.not_lt, Nat.not_le, strB_nil, strB_nil', strB_nnil, strB_nnil'] at h3
      try have hf0h3 := within_imp h3
      try have hf1h3 := within_imp h3.1
      try have hf2h3 := within_imp h3.2
      try have hf3h3 := within_imp h3.1.1
      try have hf4h3 := within_imp h3.1.2
      try have hf5h3 := within_imp h3.2.1
      try have hf6h3 := within_imp h3.2.2
      try have hf7h3 := ckDayI_imp h3
      try have hf8h3 := ckDayI_imp h3.1
      try have hf9h3 := ckDayI_imp h3.2
      try have hf10h3 := ckDayI_imp h3.1.1
      try have hf11h3 := ckDayI_imp h3.1.2
      try have hf12h3 := ckDayI_imp h3.2.1
      try have hf13h3 := ckDayI_imp h3.2.2
      refine run_skip ?_
      refine run_endB ?_
      refine run_seq ?_
      refine run_region (q_move .n (.t rfl) rfl <|
          q_move .n (.t rfl) rfl <|
          q_move .n (.t rfl) rfl <|
          q_callM (full := false) [] [(100, 202)] .n rfl .f en_51 (.cons (.t rfl) (.cons (.t rfl) (.cons (.t rfl) .nil))) (.cons (.b (.a (.same rfl))) (.cons (.b (.a (.same rfl))) (.cons (.b (.a (.same rfl))) .nil))) (c_impl_spread list from_ perDay (by first | omega | assumption | (simp only [List.length_append, List.length_cons, List.length_nil, List.length_replicate, put_len] at * <;> omega)) (by first | omega | assumption | (simp only [List.length_append, List.length_cons, List.length_nil, List.length_replicate, put_len] at * <;> omega)) (by first | omega | assumption | (simp only [List.length_append, List.length_cons, List.length_nil, List.length_replicate, put_len] at * <;> omega)) (by first | omega | assumption | (simp only [List.length_append, List.length_cons, List.length_nil, List.length_replicate, put_len] at * <;> omega))) trivial rfl rfl (fun h => Bool.noConfusion h) (fun h => Bool.noConfusion h) rfl <|
          q_move .n (.t rfl) rfl <|
          q_ext .n (.t rfl) rfl rfl rfl <|
          q_ext .n (.t rfl) rfl rfl rfl <|
          q_assign .n (.t rfl) rfl <|
          q_assign .n (.t rfl) rfl <|
          Lex.nil) ?_
      refine run_seq ?_
      refine run_seq ?_
      refine run_region (q_move .n (.t rfl) rfl <|
          q_not .n (.t rfl) rfl <|
          Lex.nil) ?_
      refine run_cond (.t rfl) rfl (fun h4 => ?_) (fun h4 => ?_)
      · try simp only [Bool.and_eq_true, Bool.or_eq_true, Bool.not_eq_true', Bool.and_eq_false_iff, Bool.or_eq_false_iff, Bool.not_eq_false', decide_eq_true_eq, decide_eq_false_iff_not, beq_iff_eq, bne_iff_ne, beq_eq_false_iff_ne, bne_eq_false_iff_eq, Bool.true_and, ne_eq, Decidable.not_not, Int.not_lt, Int.not_le, Nat.not_lt, Nat.not_le, strB_nil, strB_nil', strB_nnil, strB_nnil'] at h4
        refine run_seq ?_
        refine run_region (q_assign .n (.c rfl) rfl <|
            q_assign .n (.c rfl) rfl <|
            Lex.nil) ?_
        refine run_sub (sub_adopt (t := 6) (l := 203) (el := 2) (sz := 1) rfl rfl) ?_
        exact run_ret [(100, 203)] (.cons (.t rfl rfl) (.cons (.t rfl rfl) .nil)) (by first | rfl | (simp only [put_len]; rfl)) ⟨rfl, trivial⟩ rfl
      · try simp only [Bool.and_eq_true, Bool.or_eq_true, Bool.not_eq_true', Bool.and_eq_false_iff, Bool.or_eq_false_iff, Bool.not_eq_false', decide_eq_true_eq, decide_eq_false_iff_not, beq_iff_eq, bne_iff_ne, beq_eq_false_iff_ne, bne_eq_false_iff_eq, Bool.true_and, ne_eq, Decidable.not_not, Int.not_lt, Int.not_le, Nat.not_lt, Nat.not_le, strB_nil, strB_nil', strB_nnil, strB_nnil'] at h4
        refine run_skip ?_
        refine run_seq ?_
        refine run_region (q_move .n (.t rfl) rfl <|
            q_assign .n (.t rfl) rfl <|
            q_assign .n (.c rfl) rfl <|
            Lex.nil) ?_
        exact run_ret [(100, 202)] (.cons (.t rfl rfl) (.cons (.t rfl rfl) .nil)) (by first | rfl | (simp only [put_len]; rfl)) ⟨rfl, trivial⟩ rfl

/-! ### laws_eqInt64S -/
theorem c_laws_eqInt64S (a : List Int) (b : List Int) : Con Try.prog 11 [.sl 1 (a.map (V.int .i64)), .sl 1 (b.map (V.int .i64))] [] (.bool (m_laws_eqInt64S a b)) ([]) := by
  refine con_intro (out := fun r : Bool => ((.bool r : V), ([] : List (Nat × Option O)))) (r := (m_laws_eqInt64S a b)) Try.func11 rfl Try.ntmps11 rfl ?_
  refine run_fact (t := 0) rfl fun hl => ?_
  have l1 := hl; clear hl; simp only [List.length_map] at l1
  refine run_fact (t := 1) rfl fun hl => ?_
  have l2 := hl; clear hl; simp only [List.length_map] at l2
  refine run_seq ?_
  refine run_region (q_assign .n (.c rfl) rfl <|
      Lex.nil) ?_
  refine run_seq ?_
  refine run_seq ?_
  refine run_region (q_move .n (.t rfl) rfl <|
      q_len .n (.t rfl) rfl len_map ss_24 rfl <|
      q_move .n (.t rfl) rfl <|
      q_len .n (.t rfl) rfl len_map ss_24 rfl <|
      q_int .n (.t rfl) (.t rfl) rfl rfl <|
      Lex.nil) ?_
  refine run_cond (.t rfl) rfl (fun h3 => ?_) (fun h3 => ?_)
  · try simp only [Bool.and_eq_true, Bool.or_eq_true, Bool.not_eq_true', Bool.and_eq_false_iff, Bool.or_eq_false_iff, Bool.not_eq_false', decide_eq_true_eq, decide_eq_false_iff_not, beq_iff_eq, bne_iff_ne, beq_eq_false_iff_ne, bne_eq_false_iff_eq, Bool.true_and, ne_eq, Decidable.not_not, Int.not_lt, Int.not_le, Nat.not_lt, Nat.not_le, strB_nil, strB_nil', strB_nnil, strB_nnil'] at h3
    refine run_seq ?_
    refine run_region (q_assign .n (.c rfl) rfl <|
        Lex.nil) ?_
    exact run_ret [] (.cons (.t rfl rfl) .nil) rfl trivial rfl
  · try simp only [Bool.and_eq_true, Bool.or_eq_true, Bool.not_eq_true', Bool.and_eq_false_iff, Bool.or_eq_false_iff, Bool.not_eq_false', decide_eq_true_eq, decide_eq_false_iff_not, beq_iff_eq, bne_iff_ne, beq_eq_false_iff_ne, bne_eq_false_iff_eq, Bool.true_and, ne_eq, Decidable.not_not, Int.not_lt, Int.not_le, Nat.not_lt, Nat.not_le, strB_nil, strB_nil', strB_nnil, strB_nnil'] at h3
    refine run_skip ?_
    refine run_seq ?_
    refine run_seq ?_
    refine run_region (q_assign .n (.c rfl) rfl <|
        Lex.nil) ?_
    refine run_block ?_
    refine run_LOOP (m_laws_eqInt64S_b1 a b) _ _ _ rfl (fun (x1 : Int) => 0 ≤ x1 ∧ x1 ≤ (a.length : Int)) (fun x1 => 0 ≤ x1 ∧ x1 ≤ (a.length : Int) ∧ (a.length : Int) ≤ x1) (fun x1 => ((a.length : Int) - x1 : Int).toNat) (fun x1 => ⟨[(0, some (true, .sl 1 (a.map (V.int .i64)))), (1, some (true, .sl 1 (b.map (V.int .i64)))), (5, some (true, .int .i64 x1))], []⟩) (fun x1 => ⟨[], []⟩) ⟨by first | omega | assumption | (simp only [List.length_append, List.length_cons, List.length_nil, List.length_replicate, put_len] at * <;> omega), by first | omega | assumption | (simp only [List.length_append, List.length_cons, List.length_nil, List.length_replicate, put_len] at * <;> omega)⟩ (by first | omega | assumption | (simp only [List.length_append, List.length_cons, List.length_nil, List.length_replicate, put_len] at * <;> omega)) (sub_of [] ⟨rfl, rfl, rfl, trivial⟩ trivial rfl) ?_ ?_
    · intro x1 i8
      obtain ⟨e9, e10, e11⟩ := i8
      try dsimp only at *
      refine run_seq ?_
      refine run_region (q_assign .n (.c rfl) rfl <|
          Lex.nil) ?_
      exact run_ret [] (.cons (.t rfl rfl) .nil) rfl trivial rfl
    · intro rec1 k1 hk4 x1 i5
      obtain ⟨e12, e13⟩ := i5
      try dsimp only at *
      refine run_seq ?_
      refine run_seq ?_
      refine run_region (q_move .n (.t rfl) rfl <|
          q_move .n (.t rfl) rfl <|
          q_len .n (.t rfl) rfl len_map ss_24 rfl <|
          q_int .n (.t rfl) (.t rfl) rfl rfl <|
          Lex.nil) ?_
      refine run_cond (.t rfl) rfl (fun h6 => ?_) (fun h6 => ?_)
      · try simp only [Bool.and_eq_true, Bool.or_eq_true, Bool.not_eq_true', Bool.and_eq_false_iff, Bool.or_eq_false_iff, Bool.not_eq_false', decide_eq_true_eq, decide_eq_false_iff_not, beq_iff_eq, bne_iff_ne, beq_eq_false_iff_ne, bne_eq_false_iff_eq, Bool.true_and, ne_eq, Decidable.not_not, Int.not_lt, Int.not_le, Nat.not_lt, Nat.not_le, strB_nil, strB_nil', strB_nnil, strB_nnil'] at h6
        refine run_skip ?_
        refine run_seq ?_
        refine run_block ?_
        refine run_seq ?_
        refine run_draw fmo (q_move .n (.t rfl) rfl <|
            q_move .n (.t rfl) rfl <|
            q_idx_rm .n (.t rfl) (.t rfl) sl_24 (fun _ => by first | omega | assumption | (simp only [List.length_append, List.length_cons, List.length_nil, List.length_replicate, put_len] at * <;> omega)) rfl <|
            q_ld1_ro .n (.t rfl) rfl ic_2 rfl <|
            q_move .n (.t rfl) rfl <|
            q_move .n (.t rfl) rfl <|
            q_idx_rm .n (.t rfl) (.t rfl) sl_24 (fun _ => by first | omega | assumption | (simp only [List.length_append, List.length_cons, List.length_nil, List.length_replicate, put_len] at * <;> omega)) rfl <|
            q_ld1_ro .n (.t rfl) rfl ic_2 rfl <|
            q_int .n (.t rfl) (.t rfl) rfl rfl <|
            Lex.nil) (by kernel_rfl) ?_
        refine run_cond (.t rfl) rfl (fun h7 => ?_) (fun h7 => ?_)
        · try simp only [Bool.and_eq_true, Bool.or_eq_true, Bool.not_eq_true', Bool.and_eq_false_iff, Bool.or_eq_false_iff, Bool.not_eq_false', decide_eq_true_eq, decide_eq_false_iff_not, beq_iff_eq, bne_iff_ne, beq_eq_false_iff_ne, bne_eq_false_iff_eq, Bool.true_and, ne_eq, Decidable.not_not, Int.not_lt, Int.not_le, Nat.not_lt, Nat.not_le, strB_nil, strB_nil', strB_nnil, strB_nnil'] at h7
          refine run_seq ?_
          refine run_region (q_assign .n (.c rfl) rfl <|
              Lex.nil) ?_
          exact run_ret [] (.cons (.t rfl rfl) .nil) rfl trivial rfl
        · try simp only [Bool.and_eq_true, Bool.or_eq_true, Bool.not_eq_true', Bool.and_eq_false_iff, Bool.or_eq_false_iff, Bool.not_eq_false', decide_eq_true_eq, decide_eq_false_iff_not, beq_iff_eq, bne_iff_ne, beq_eq_false_iff_ne, bne_eq_false_iff_eq, Bool.true_and, ne_eq, Decidable.not_not, Int.not_lt, Int.not_le, Nat.not_lt, Nat.not_le, strB_nil, strB_nil', strB_nnil, strB_nnil'] at h7
          refine run_skip ?_
          refine run_endB ?_
          refine run_region (q_move .n (.t rfl) rfl <|
              q_add .n (.t rfl) (.c rfl) (fun _ => by first | omega | assumption | (simp only [List.length_append, List.length_cons, List.length_nil, List.length_replicate, put_len] at * <;> omega)) rfl <|
              q_assign .n (.t rfl) rfl <|
              Lex.nil) ?_
          exact run_again (x1 + 1) ⟨by first | omega | assumption | (simp only [List.length_append, List.length_cons, List.length_nil, List.length_replicate, put_len] at * <;> omega), by first | omega | assumption | (simp only [List.length_append, List.length_cons, List.length_nil, List.length_replicate, put_len] at * <;> omega)⟩ (by first | omega | assumption | (simp only [List.length_append, List.length_cons, List.length_nil, List.length_replicate, put_len] at * <;> omega)) (sub_of [] ⟨rfl, rfl, rfl, trivial⟩ trivial rfl)
      · try simp only [Bool.and_eq_true, Bool.or_eq_true, Bool.not_eq_true', Bool.and_eq_false_iff, Bool.or_eq_false_iff, Bool.not_eq_false', decide_eq_true_eq, decide_eq_false_iff_not, beq_iff_eq, bne_iff_ne, beq_eq_false_iff_ne, bne_eq_false_iff_eq, Bool.true_and, ne_eq, Decidable.not_not, Int.not_lt, Int.not_le, Nat.not_lt, Nat.not_le, strB_nil, strB_nil', strB_nnil, strB_nnil'] at h6
        refine run_exit rfl ?_
        exact run_cont hk4 x1 ⟨by first | omega | assumption | (simp only [List.length_append, List.length_cons, List.length_nil, List.length_replicate, put_len] at * <;> omega), by first | omega | assumption | (simp only [List.length_append, List.length_cons, List.length_nil, List.length_replicate, put_len] at * <;> omega), by first | omega | assumption | (simp only [List.length_append, List.length_cons, List.length_nil, List.length_replicate, put_len] at * <;> omega)⟩ (sub_of [] trivial trivial rfl)

/-! ### laws_eqCheck -/
theorem c_laws_eqCheck (a : gCheck) (b : gCheck) : Con Try.prog 52 [.st [.str a.Id, .int .i64 a.Every, .int .i64 a.Last], .st [.str b.Id, .int .i64 b.Every, .int .i64 b.Last]] [] (.bool (m_laws_eqCheck a b)) ([]) := by
  refine con_intro (out := fun r : Bool => ((.bool r : V), ([] : List (Nat × Option O)))) (r := (m_laws_eqCheck a b)) Try.func52 rfl Try.ntmps52 rfl ?_
  refine run_seq ?_
  refine run_region (q_box (l := 200) .n rfl (.t rfl) rfl rfl rfl rfl <|
      q_box (l := 201) .n rfl (.t rfl) rfl rfl rfl rfl <|
      q_assign .n (.c rfl) rfl <|
      Lex.nil) ?_
  refine run_seq ?_
  refine run_seq ?_
  refine run_region (q_fld_ow .n (.t rfl) fo_83_0 rfl <|
      q_ld1_ow .n (.t rfl) rfl (.inr rfl) (fun _ => rfl) rfl ic_9 rfl <|
      q_fld_ow .n (.t rfl) fo_83_0 rfl <|
      q_ld1_ow .n (.t rfl) rfl (.inr rfl) (fun _ => rfl) rfl ic_9 rfl <|
      q_strcmp .n (.t rfl) (.t rfl) rfl rfl <|
      Lex.nil) ?_
  refine run_cond (.t rfl) rfl (fun h1 => ?_) (fun h1 => ?_)
  · try simp only [Bool.and_eq_true, Bool.or_eq_true, Bool.not_eq_true', Bool.and_eq_false_iff, Bool.or_eq_false_iff, Bool.not_eq_false', decide_eq_true_eq, decide_eq_false_iff_not, beq_iff_eq, bne_iff_ne, beq_eq_false_iff_ne, bne_eq_false_iff_eq, Bool.true_and, ne_eq, Decidable.not_not, Int.not_lt, Int.not_le, Nat.not_lt, Nat.not_le, strB_nil, strB_nil', strB_nnil, strB_nnil'] at h1
    refine run_seq ?_
    refine run_region (q_assign .n (.c rfl) rfl <|
        Lex.nil) ?_
    exact run_ret [] (.cons (.t rfl rfl) .nil) rfl trivial rfl
  · try simp only [Bool.and_eq_true, Bool.or_eq_true, Bool.not_eq_true', Bool.and_eq_false_iff, Bool.or_eq_false_iff, Bool.not_eq_false', decide_eq_true_eq, decide_eq_false_iff_not, beq_iff_eq, bne_iff_ne, beq_eq_false_iff_ne, bne_eq_false_iff_eq, Bool.true_and, ne_eq, Decidable.not_not, Int.not_lt, Int.not_le, Nat.not_lt, Nat.not_le, strB_nil, strB_nil', strB_nnil, strB_nnil'] at h1
    refine run_skip ?_
    refine run_seq ?_
    refine run_seq ?_
    refine run_region (q_fld_ow .n (.t rfl) fo_83_1 rfl <|
        q_ld1_ow .n (.t rfl) rfl (.inr rfl) (fun _ => rfl) rfl ic_2 rfl <|
        q_fld_ow .n (.t rfl) fo_83_1 rfl <|
        q_ld1_ow .n (.t rfl) rfl (.inr rfl) (fun _ => rfl) rfl ic_2 rfl <|
        q_int .n (.t rfl) (.t rfl) rfl rfl <|
        Lex.nil) ?_
    refine run_cond (.t rfl) rfl (fun h2 => ?_) (fun h2 => ?_)
    · try simp only [Bool.and_eq_true, Bool.or_eq_true, Bool.not_eq_true', Bool.and_eq_false_iff, Bool.or_eq_false_iff, Bool.not_eq_false', decide_eq_true_eq, decide_eq_false_iff_not, beq_iff_eq, bne_iff_ne, beq_eq_false_iff_ne, bne_eq_false_iff_eq, Bool.true_and, ne_eq, Decidable.not_not, Int.not_lt, Int.not_le, Nat.not_lt, Nat.not_le, strB_nil, strB_nil', strB_nnil, strB_nnil'] at h2
      refine run_seq ?_
      refine run_region (q_assign .n (.c rfl) rfl <|
          Lex.nil) ?_
      exact run_ret [] (.cons (.t rfl rfl) .nil) rfl trivial rfl
    · try simp only [Bool.and_eq_true, Bool.or_eq_true, Bool.not_eq_true', Bool.and_eq_false_iff, Bool.or_eq_false_iff, Bool.not_eq_false', decide_eq_true_eq, decide_eq_false_iff_not, beq_iff_eq, bne_iff_ne, beq_eq_false_iff_ne, bne_eq_false_iff_eq, Bool.true_and, ne_eq, Decidable.not_not, Int.not_lt, Int.not_le, Nat.not_lt, Nat.not_le, strB_nil, strB_nil', strB_nnil, strB_nnil'] at h2
      refine run_skip ?_
      refine run_seq ?_
      refine run_seq ?_
      refine run_region (q_fld_ow .n (.t rfl) fo_83_2 rfl <|
          q_ld1_ow .n (.t rfl) rfl (.inr rfl) (fun _ => rfl) rfl ic_2 rfl <|
          q_fld_ow .n (.t rfl) fo_83_2 rfl <|
          q_ld1_ow .n (.t rfl) rfl (.inr rfl) (fun _ => rfl) rfl ic_2 rfl <|
          q_int .n (.t rfl) (.t rfl) rfl rfl <|
          Lex.nil) ?_
      refine run_cond (.t rfl) rfl (fun h3 => ?_) (fun h3 => ?_)
      · try simp only [Bool.and_eq_true, Bool.or_eq_true, Bool.not_eq_true', Bool.and_eq_false_iff, Bool.or_eq_false_iff, Bool.not_eq_false', decide_eq_true_eq, decide_eq_false_iff_not, beq_iff_eq, bne_iff_ne, beq_eq_false_iff_ne, bne_eq_false_iff_eq, Bool.true_and, ne_eq, Decidable.not_not, Int.not_lt, Int.not_le, Nat.not_lt, Nat.not_le, strB_nil, strB_nil', strB_nnil, strB_nnil'] at h3
        refine run_seq ?_
        refine run_region (q_assign .n (.c rfl) rfl <|
            Lex.nil) ?_
        exact run_ret [] (.cons (.t rfl rfl) .nil) rfl trivial rfl
      · try simp only [Bool.and_eq_true, Bool.or_eq_true, Bool.not_eq_true', Bool.and_eq_false_iff, Bool.or_eq_false_iff, Bool.not_eq_false', decide_eq_true_eq, decide_eq_false_iff_not, beq_iff_eq, bne_iff_ne, beq_eq_false_iff_ne, bne_eq_false_iff_eq, Bool.true_and, ne_eq, Decidable.not_not, Int.not_lt, Int.not_le, Nat.not_lt, Nat.not_le, strB_nil, strB_nil', strB_nnil, strB_nnil'] at h3
        refine run_skip ?_
        refine run_seq ?_
        refine run_region (q_assign .n (.c rfl) rfl <|
            Lex.nil) ?_
        exact run_ret [] (.cons (.t rfl rfl) .nil) rfl trivial rfl

/-! ### laws_eqCheckS -/
theorem c_laws_eqCheckS (a : List gCheck) (b : List gCheck) : Con Try.prog 12 [.sl 3 (a.map gCheck.v), .sl 3 (b.map gCheck.v)] [] (.bool (m_laws_eqCheckS a b)) ([]) := by
  refine con_intro (out := fun r : Bool => ((.bool r : V), ([] : List (Nat × Option O)))) (r := (m_laws_eqCheckS a b)) Try.func12 rfl Try.ntmps12 rfl ?_
  refine run_fact (t := 0) rfl fun hl => ?_
  have l1 := hl; clear hl; simp only [List.length_map] at l1
  refine run_fact (t := 1) rfl fun hl => ?_
  have l2 := hl; clear hl; simp only [List.length_map] at l2
  refine run_seq ?_
  refine run_region (q_assign .n (.c rfl) rfl <|
      Lex.nil) ?_
  refine run_seq ?_
  refine run_seq ?_
  refine run_region (q_move .n (.t rfl) rfl <|
      q_len .n (.t rfl) rfl len_map ss_27 rfl <|
      q_move .n (.t rfl) rfl <|
      q_len .n (.t rfl) rfl len_map ss_27 rfl <|
      q_int .n (.t rfl) (.t rfl) rfl rfl <|
      Lex.nil) ?_
  refine run_cond (.t rfl) rfl (fun h3 => ?_) (fun h3 => ?_)
  · try simp only [Bool.and_eq_true, Bool.or_eq_true, Bool.not_eq_true', Bool.and_eq_false_iff, Bool.or_eq_false_iff, Bool.not_eq_false', decide_eq_true_eq, decide_eq_false_iff_not, beq_iff_eq, bne_iff_ne, beq_eq_false_iff_ne, bne_eq_false_iff_eq, Bool.true_and, ne_eq, Decidable.not_not, Int.not_lt, Int.not_le, Nat.not_lt, Nat.not_le, strB_nil, strB_nil', strB_nnil, strB_nnil'] at h3
    refine run_seq ?_
    refine run_region (q_assign .n (.c rfl) rfl <|
        Lex.nil) ?_
    exact run_ret [] (.cons (.t rfl rfl) .nil) rfl trivial rfl
  · try simp only [Bool.and_eq_true, Bool.or_eq_true, Bool.not_eq_true', Bool.and_eq_false_iff, Bool.or_eq_false_iff, Bool.not_eq_false', decide_eq_true_eq, decide_eq_false_iff_not, beq_iff_eq, bne_iff_ne, beq_eq_false_iff_ne, bne_eq_false_iff_eq, Bool.true_and, ne_eq, Decidable.not_not, Int.not_lt, Int.not_le, Nat.not_lt, Nat.not_le, strB_nil, strB_nil', strB_nnil, strB_nnil'] at h3
    refine run_skip ?_
    refine run_seq ?_
    refine run_seq ?_
    refine run_region (q_assign .n (.c rfl) rfl <|
        Lex.nil) ?_
    refine run_block ?_
    refine run_LOOP (m_laws_eqCheckS_b1 a b) _ _ _ rfl (fun (x1 : Int) => 0 ≤ x1 ∧ x1 ≤ (a.length : Int)) (fun x1 => 0 ≤ x1 ∧ x1 ≤ (a.length : Int) ∧ (a.length : Int) ≤ x1) (fun x1 => ((a.length : Int) - x1 : Int).toNat) (fun x1 => ⟨[(0, some (true, .sl 3 (a.map gCheck.v))), (1, some (true, .sl 3 (b.map gCheck.v))), (5, some (true, .int .i64 x1))], []⟩) (fun x1 => ⟨[], []⟩) ⟨by first | omega | assumption | (simp only [List.length_append, List.length_cons, List.length_nil, List.length_replicate, put_len] at * <;> omega), by first | omega | assumption | (simp only [List.length_append, List.length_cons, List.length_nil, List.length_replicate, put_len] at * <;> omega)⟩ (by first | omega | assumption | (simp only [List.length_append, List.length_cons, List.length_nil, List.length_replicate, put_len] at * <;> omega)) (sub_of [] ⟨rfl, rfl, rfl, trivial⟩ trivial rfl) ?_ ?_
    · intro x1 i8
      obtain ⟨e9, e10, e11⟩ := i8
      try dsimp only at *
      refine run_seq ?_
      refine run_region (q_assign .n (.c rfl) rfl <|
          Lex.nil) ?_
      exact run_ret [] (.cons (.t rfl rfl) .nil) rfl trivial rfl
    · intro rec1 k1 hk4 x1 i5
      obtain ⟨e12, e13⟩ := i5
      try dsimp only at *
      refine run_seq ?_
      refine run_seq ?_
      refine run_region (q_move .n (.t rfl) rfl <|
          q_move .n (.t rfl) rfl <|
          q_len .n (.t rfl) rfl len_map ss_27 rfl <|
          q_int .n (.t rfl) (.t rfl) rfl rfl <|
          Lex.nil) ?_
      refine run_cond (.t rfl) rfl (fun h6 => ?_) (fun h6 => ?_)
      · try simp only [Bool.and_eq_true, Bool.or_eq_true, Bool.not_eq_true', Bool.and_eq_false_iff, Bool.or_eq_false_iff, Bool.not_eq_false', decide_eq_true_eq, decide_eq_false_iff_not, beq_iff_eq, bne_iff_ne, beq_eq_false_iff_ne, bne_eq_false_iff_eq, Bool.true_and, ne_eq, Decidable.not_not, Int.not_lt, Int.not_le, Nat.not_lt, Nat.not_le, strB_nil, strB_nil', strB_nnil, strB_nnil'] at h6
        refine run_skip ?_
        refine run_seq ?_
        refine run_block ?_
        refine run_seq ?_
        refine run_draw fmo (q_move .n (.t rfl) rfl <|
            q_move .n (.t rfl) rfl <|
            q_idx_rm .n (.t rfl) (.t rfl) sl_27 (fun _ => by first | omega | assumption | (simp only [List.length_append, List.length_cons, List.length_nil, List.length_replicate, put_len] at * <;> omega)) rfl <|
            q_ldN_ro .n (.t rfl) ag_83 rfl rfl rfl <|
            q_move .n (.t rfl) rfl <|
            q_move .n (.t rfl) rfl <|
            q_idx_rm .n (.t rfl) (.t rfl) sl_27 (fun _ => by first | omega | assumption | (simp only [List.length_append, List.length_cons, List.length_nil, List.length_replicate, put_len] at * <;> omega)) rfl <|
            q_ldN_ro .n (.t rfl) ag_83 rfl rfl rfl <|
            q_call0 (full := false) .n .f en_52 (.cons (.t rfl) (.cons (.t rfl) .nil)) (.cons (.sts rfl) (.cons (.sts rfl) .nil)) (fun hg => c_laws_eqCheck (at' a x1) (at' b x1)) rfl (fun h => Bool.noConfusion h) rfl <|
            q_not .n (.t rfl) rfl <|
            Lex.nil) (by kernel_rfl) ?_
        refine run_cond (.t rfl) rfl (fun h7 => ?_) (fun h7 => ?_)
        · try simp only [Bool.and_eq_true, Bool.or_eq_true, Bool.not_eq_true', Bool.and_eq_false_iff, Bool.or_eq_false_iff, Bool.not_eq_false', decide_eq_true_eq, decide_eq_false_iff_not, beq_iff_eq, bne_iff_ne, beq_eq_false_iff_ne, bne_eq_false_iff_eq, Bool.true_and, ne_eq, Decidable.not_not, Int.not_lt, Int.not_le, Nat.not_lt, Nat.not_le, strB_nil, strB_nil', strB_nnil, strB_nnil'] at h7
          refine run_seq ?_
          refine run_region (q_assign .n (.c rfl) rfl <|
              Lex.nil) ?_
          exact run_ret [] (.cons (.t rfl rfl) .nil) rfl trivial rfl
        · try simp only [Bool.and_eq_true, Bool.or_eq_true, Bool.not_eq_true', Bool.and_eq_false_iff, Bool.or_eq_false_iff, Bool.not_eq_false', decide_eq_true_eq, decide_eq_false_iff_not, beq_iff_eq, bne_iff_ne, beq_eq_false_iff_ne, bne_eq_false_iff_eq, Bool.true_and, ne_eq, Decidable.not_not, Int.not_lt, Int.not_le, Nat.not_lt, Nat.not_le, strB_nil, strB_nil', strB_nnil, strB_nnil'] at h7
          refine run_skip ?_
          refine run_endB ?_
          refine run_region (q_move .n (.t rfl) rfl <|
              q_add .n (.t rfl) (.c rfl) (fun _ => by first | omega | assumption | (simp only [List.length_append, List.length_cons, List.length_nil, List.length_replicate, put_len] at * <;> omega)) rfl <|
              q_assign .n (.t rfl) rfl <|
              Lex.nil) ?_
          exact run_again (x1 + 1) ⟨by first | omega | assumption | (simp only [List.length_append, List.length_cons, List.length_nil, List.length_replicate, put_len] at * <;> omega), by first | omega | assumption | (simp only [List.length_append, List.length_cons, List.length_nil, List.length_replicate, put_len] at * <;> omega)⟩ (by first | omega | assumption | (simp only [List.length_append, List.length_cons, List.length_nil, List.length_replicate, put_len] at * <;> omega)) (sub_of [] ⟨rfl, rfl, rfl, trivial⟩ trivial rfl)
      · try simp only [Bool.and_eq_true, Bool.or_eq_true, Bool.not_eq_true', Bool.and_eq_false_iff, Bool.or_eq_false_iff, Bool.not_eq_false', decide_eq_true_eq, decide_eq_false_iff_not, beq_iff_eq, bne_iff_ne, beq_eq_false_iff_ne, bne_eq_false_iff_eq, Bool.true_and, ne_eq, Decidable.not_not, Int.not_lt, Int.not_le, Nat.not_lt, Nat.not_le, strB_nil, strB_nil', strB_nnil, strB_nnil'] at h6
        refine run_exit rfl ?_
        exact run_cont hk4 x1 ⟨by first | omega | assumption | (simp only [List.length_append, List.length_cons, List.length_nil, List.length_replicate, put_len] at * <;> omega), by first | omega | assumption | (simp only [List.length_append, List.length_cons, List.length_nil, List.length_replicate, put_len] at * <;> omega), by first | omega | assumption | (simp only [List.length_append, List.length_cons, List.length_nil, List.length_replicate, put_len] at * <;> omega)⟩ (sub_of [] trivial trivial rfl)

/-! ### laws_markText -/
theorem c_laws_markText (k_ : Int) (hp1 : k_ ≤ 9223372036854775807) : Con Try.prog 53 [.int .i64 k_] [] (.str (m_laws_markText k_)) ([]) := by
  refine con_intro (out := fun r : (List UInt8) => ((.str r : V), ([] : List (Nat × Option O)))) (r := (m_laws_markText k_)) Try.func53 rfl Try.ntmps53 rfl ?_
  refine run_seq ?_
  refine run_region (q_assign .n (.c rfl) rfl <|
      Lex.nil) ?_
  refine run_seq ?_
  refine run_seq ?_
  refine run_region (q_move .n (.t rfl) rfl <|
      q_int .n (.t rfl) (.c rfl) rfl rfl <|
      Lex.nil) ?_
  refine run_cond (.t rfl) rfl (fun h1 => ?_) (fun h1 => ?_)
  · try simp only [Bool.and_eq_true, Bool.or_eq_true, Bool.not_eq_true', Bool.and_eq_false_iff, Bool.or_eq_false_iff, Bool.not_eq_false', decide_eq_true_eq, decide_eq_false_iff_not, beq_iff_eq, bne_iff_ne, beq_eq_false_iff_ne, bne_eq_false_iff_eq, Bool.true_and, ne_eq, Decidable.not_not, Int.not_lt, Int.not_le, Nat.not_lt, Nat.not_le, strB_nil, strB_nil', strB_nnil, strB_nnil'] at h1
    refine run_seq ?_
    refine run_region (q_assign .n (.c rfl) rfl <|
        Lex.nil) ?_
    exact run_ret [] (.cons (.t rfl rfl) .nil) rfl trivial rfl
  · try simp only [Bool.and_eq_true, Bool.or_eq_true, Bool.not_eq_true', Bool.and_eq_false_iff, Bool.or_eq_false_iff, Bool.not_eq_false', decide_eq_true_eq, decide_eq_false_iff_not, beq_iff_eq, bne_iff_ne, beq_eq_false_iff_ne, bne_eq_false_iff_eq, Bool.true_and, ne_eq, Decidable.not_not, Int.not_lt, Int.not_le, Nat.not_lt, Nat.not_le, strB_nil, strB_nil', strB_nnil, strB_nnil'] at h1
    refine run_skip ?_
    refine run_seq ?_
    refine run_region (q_assign .n (.c rfl) rfl <|
        Lex.nil) ?_
    refine run_seq ?_
    refine run_block ?_
    refine run_LOOP (m_laws_markText_b1 k_) _ _ _ rfl (fun (x1 : Int × (List UInt8)) => (x1.2.length : Int) + x1.1 ≤ k_ ∧ (x1.1 = k_ ∨ (x1.2.length : Int) + x1.1 ≤ 1 + k_ / 10) ∧ 0 ≤ x1.1) (fun x1 => (x1.2.length : Int) + x1.1 ≤ k_ ∧ (x1.1 = k_ ∨ (x1.2.length : Int) + x1.1 ≤ 1 + k_ / 10) ∧ 0 ≤ x1.1) (fun x1 => x1.1.toNat) (fun x1 => ⟨[(0, some (true, .int .i64 x1.1)), (3, some (true, .str x1.2))], []⟩) (fun x1 => ⟨[(3, some (true, .str x1.2))], []⟩) ⟨by first | omega | assumption | (simp only [List.length_append, List.length_cons, List.length_nil, List.length_replicate, put_len] at * <;> omega) | ((rw [tdiv10 (by omega) (by omega)]; simp only [List.length_append, List.length_cons, List.length_nil, List.length_replicate, put_len, chars, List.length_map] at *; omega)) | ((simp only [chars, List.length_map, List.length_cons, List.length_nil, List.length_append] at *; omega)), by first | omega | assumption | (simp only [List.length_append, List.length_cons, List.length_nil, List.length_replicate, put_len] at * <;> omega) | ((rw [tdiv10 (by omega) (by omega)]; simp only [List.length_append, List.length_cons, List.length_nil, List.length_replicate, put_len, chars, List.length_map] at *; omega)) | ((simp only [chars, List.length_map, List.length_cons, List.length_nil, List.length_append] at *; omega)), by first | omega | assumption | (simp only [List.length_append, List.length_cons, List.length_nil, List.length_replicate, put_len] at * <;> omega) | ((rw [tdiv10 (by omega) (by omega)]; simp only [List.length_append, List.length_cons, List.length_nil, List.length_replicate, put_len, chars, List.length_map] at *; omega)) | ((simp only [chars, List.length_map, List.length_cons, List.length_nil, List.length_append] at *; omega))⟩ (by first | omega | assumption | (simp only [List.length_append, List.length_cons, List.length_nil, List.length_replicate, put_len] at * <;> omega) | ((rw [tdiv10 (by omega) (by omega)]; simp only [List.length_append, List.length_cons, List.length_nil, List.length_replicate, put_len, chars, List.length_map] at *; omega)) | ((simp only [chars, List.length_map, List.length_cons, List.length_nil, List.length_append] at *; omega))) (sub_of [] ⟨rfl, rfl, trivial⟩ trivial rfl) ?_ ?_
    · intro x1 i5
      obtain ⟨e6, e7, e8⟩ := i5
      try dsimp only at *
      refine run_seq ?_
      refine run_region (q_move .n (.t rfl) rfl <|
          q_strcat .n (.c rfl) (.t rfl) (fun _ => by first | omega | assumption | (simp only [List.length_append, List.length_cons, List.length_nil, List.length_replicate, put_len] at * <;> omega) | ((rw [tdiv10 (by omega) (by omega)]; simp only [List.length_append, List.length_cons, List.length_nil, List.length_replicate, put_len, chars, List.length_map] at *; omega)) | ((simp only [chars, List.length_map, List.length_cons, List.length_nil, List.length_append] at *; omega))) rfl <|
          q_assign .n (.t rfl) rfl <|
          Lex.nil) ?_
      exact run_ret [] (.cons (.t rfl rfl) .nil) rfl trivial rfl
    · intro rec1 k1 hk2 x1 i3
      obtain ⟨e9, e10, e11⟩ := i3
      try dsimp only at *
      refine run_seq ?_
      refine run_seq ?_
      refine run_region (q_move .n (.t rfl) rfl <|
          q_int .n (.t rfl) (.c rfl) rfl rfl <|
          Lex.nil) ?_
      refine run_cond (.t rfl) rfl (fun h4 => ?_) (fun h4 => ?_)
      · try simp only [Bool.and_eq_true, Bool.or_eq_true, Bool.not_eq_true', Bool.and_eq_false_iff, Bool.or_eq_false_iff, Bool.not_eq_false', decide_eq_true_eq, decide_eq_false_iff_not, beq_iff_eq, bne_iff_ne, beq_eq_false_iff_ne, bne_eq_false_iff_eq, Bool.true_and, ne_eq, Decidable.not_not, Int.not_lt, Int.not_le, Nat.not_lt, Nat.not_le, strB_nil, strB_nil', strB_nnil, strB_nnil'] at h4
        refine run_skip ?_
        refine run_block ?_
        refine run_seq ?_
        refine run_region (q_move .n (.t rfl) rfl <|
            q_rem .n (.t rfl) (.c rfl) (fun _ => by decide) rfl <|
            q_int .n (.c rfl) (.t rfl) rfl rfl <|
            q_conv .n (.t rfl) cv_3_5 rfl <|
            q_bslicem ([IntKind.wrap .u8 (IntKind.wrap .i64 (48 + (Int.tmod x1.1 10)))] : List Int) (f := V.int .u8) (l := 200) .n rfl rfl (.cons (.t rfl) .nil) rfl si_145 zv_5 rfl rfl rfl <|
            q_b2s (xs := ([IntKind.wrap .u8 (IntKind.wrap .i64 (48 + (Int.tmod x1.1 10)))] : List Int)) .n (.ow (.t rfl) rfl (take_all (by simp only [len_map, put_len] <;> rfl)) (by simp only [len_map, put_len] <;> rfl)) bs_145_9 rfl <|
            q_move .n (.t rfl) rfl <|
            q_strcat .n (.t rfl) (.t rfl) (fun _ => by first | omega | assumption | (simp only [List.length_append, List.length_cons, List.length_nil, List.length_replicate, put_len] at * <;> omega) | ((rw [tdiv10 (by omega) (by omega)]; simp only [List.length_append, List.length_cons, List.length_nil, List.length_replicate, put_len, chars, List.length_map] at *; omega)) | ((simp only [chars, List.length_map, List.length_cons, List.length_nil, List.length_append] at *; omega))) rfl <|
            q_assign .n (.t rfl) rfl <|
            Lex.nil) ?_
        refine run_region (q_move .n (.t rfl) rfl <|
            q_quo .n (.t rfl) (.c rfl) (fun _ => by decide) rfl <|
            q_assign .n (.t rfl) rfl <|
            Lex.nil) ?_
        refine run_endB ?_
        exact run_again (IntKind.wrap .i64 (Int.tdiv x1.1 10), (chars ([IntKind.wrap .u8 (IntKind.wrap .i64 (48 + (Int.tmod x1.1 10)))] : List Int)) ++ x1.2) ⟨by first | omega | assumption | (simp only [List.length_append, List.length_cons, List.length_nil, List.length_replicate, put_len] at * <;> omega) | ((rw [tdiv10 (by omega) (by omega)]; simp only [List.length_append, List.length_cons, List.length_nil, List.length_replicate, put_len, chars, List.length_map] at *; omega)) | ((simp only [chars, List.length_map, List.length_cons, List.length_nil, List.length_append] at *; omega)), by first | omega | assumption | (simp only [List.length_append, List.length_cons, List.length_nil, List.length_replicate, put_len] at * <;> omega) | ((rw [tdiv10 (by omega) (by omega)]; simp only [List.length_append, List.length_cons, List.length_nil, List.length_replicate, put_len, chars, List.length_map] at *; omega)) | ((simp only [chars, List.length_map, List.length_cons, List.length_nil, List.length_append] at *; omega)), by first | omega | assumption | (simp only [List.length_append, List.length_cons, List.length_nil, List.length_replicate, put_len] at * <;> omega) | ((rw [tdiv10 (by omega) (by omega)]; simp only [List.length_append, List.length_cons, List.length_nil, List.length_replicate, put_len, chars, List.length_map] at *; omega)) | ((simp only [chars, List.length_map, List.length_cons, List.length_nil, List.length_append] at *; omega))⟩ (by first | omega | assumption | (simp only [List.length_append, List.length_cons, List.length_nil, List.length_replicate, put_len] at * <;> omega) | ((rw [tdiv10 (by omega) (by omega)]; simp only [List.length_append, List.length_cons, List.length_nil, List.length_replicate, put_len, chars, List.length_map] at *; omega)) | ((simp only [chars, List.length_map, List.length_cons, List.length_nil, List.length_append] at *; omega))) (sub_of [] ⟨rfl, rfl, trivial⟩ trivial rfl)
      · try simp only [Bool.and_eq_true, Bool.or_eq_true, Bool.not_eq_true', Bool.and_eq_false_iff, Bool.or_eq_false_iff, Bool.not_eq_false', decide_eq_true_eq, decide_eq_false_iff_not, beq_iff_eq, bne_iff_ne, beq_eq_false_iff_ne, bne_eq_false_iff_eq, Bool.true_and, ne_eq, Decidable.not_not, Int.not_lt, Int.not_le, Nat.not_lt, Nat.not_le, strB_nil, strB_nil', strB_nnil, strB_nnil'] at h4
        refine run_exit rfl ?_
        exact run_cont hk2 (x1.1, x1.2) ⟨by first | omega | assumption | (simp only [List.length_append, List.length_cons, List.length_nil, List.length_replicate, put_len] at * <;> omega) | ((rw [tdiv10 (by omega) (by omega)]; simp only [List.length_append, List.length_cons, List.length_nil, List.length_replicate, put_len, chars, List.length_map] at *; omega)) | ((simp only [chars, List.length_map, List.length_cons, List.length_nil, List.length_append] at *; omega)), by first | omega | assumption | (simp only [List.length_append, List.length_cons, List.length_nil, List.length_replicate, put_len] at * <;> omega) | ((rw [tdiv10 (by omega) (by omega)]; simp only [List.length_append, List.length_cons, List.length_nil, List.length_replicate, put_len, chars, List.length_map] at *; omega)) | ((simp only [chars, List.length_map, List.length_cons, List.length_nil, List.length_append] at *; omega)), by first | omega | assumption | (simp only [List.length_append, List.length_cons, List.length_nil, List.length_replicate, put_len] at * <;> omega) | ((rw [tdiv10 (by omega) (by omega)]; simp only [List.length_append, List.length_cons, List.length_nil, List.length_replicate, put_len, chars, List.length_map] at *; omega)) | ((simp only [chars, List.length_map, List.length_cons, List.length_nil, List.length_append] at *; omega))⟩ (sub_of [] ⟨rfl, trivial⟩ trivial rfl)

/-! ### laws_markCheckS -/
theorem c_laws_markCheckS (a : List gCheck) (k_ : Int) (hp1 : k_ ≤ 9223372036854775807) : Con Try.prog 13 [.os 0 a.length, .int .i64 k_] [(0, some (.row 83 3 (a.map gCheck.v)))] (.int .i64 (m_laws_markCheckS a k_).1) ([(0, some (.row 83 3 ((m_laws_markCheckS a k_).2.map gCheck.v)))]) := by
  refine con_intro (out := fun r : Int × (List gCheck) => ((.int .i64 r.1 : V), ([(0, some (.row 83 3 (r.2.map gCheck.v)))] : List (Nat × Option O)))) (r := (m_laws_markCheckS a k_)) Try.func13 rfl Try.ntmps13 rfl ?_
  refine run_factH (l := 0) rfl fun hl => ?_
  have l1 := hl; clear hl; simp only [List.length_map] at l1
  refine run_seq ?_
  refine run_region (q_assign .n (.c rfl) rfl <|
      Lex.nil) ?_
  refine run_seq ?_
  refine run_seq ?_
  refine run_region (q_assign .n (.c rfl) rfl <|
      Lex.nil) ?_
  refine run_block ?_
  refine run_LOOP (m_laws_markCheckS_b1 a k_) _ _ _ rfl (fun (x1 : (List gCheck) × Int × Int) => 0 ≤ x1.2.2 ∧ x1.1.length = a.length ∧ x1.2.1 ≤ 9223372036854775807) (fun x1 => 0 ≤ x1.2.2 ∧ x1.1.length = a.length ∧ x1.2.1 ≤ 9223372036854775807 ∧ (x1.1.length : Int) ≤ x1.2.2) (fun x1 => ((x1.1.length : Int) - x1.2.2 : Int).toNat) (fun x1 => ⟨[(0, some (true, .os 0 x1.1.length)), (1, some (true, .int .i64 x1.2.1)), (5, some (true, .int .i64 x1.2.2))], [(0, some (.row 83 3 (x1.1.map gCheck.v)))]⟩) (fun x1 => ⟨[(1, some (true, .int .i64 x1.2.1))], [(0, some (.row 83 3 (x1.1.map gCheck.v)))]⟩) ⟨by first | omega | assumption | (simp only [List.length_append, List.length_cons, List.length_nil, List.length_replicate, put_len] at * <;> omega) | (exact wr64_le), by first | omega | assumption | (simp only [List.length_append, List.length_cons, List.length_nil, List.length_replicate, put_len] at * <;> omega) | (exact wr64_le), by first | omega | assumption | (simp only [List.length_append, List.length_cons, List.length_nil, List.length_replicate, put_len] at * <;> omega) | (exact wr64_le)⟩ (by first | omega | assumption | (simp only [List.length_append, List.length_cons, List.length_nil, List.length_replicate, put_len] at * <;> omega) | (exact wr64_le)) (sub_of [] ⟨rfl, rfl, rfl, trivial⟩ ⟨rfl, trivial⟩ rfl) ?_ ?_
  · intro x1 i5
    obtain ⟨e6, e7, e8, e9⟩ := i5
    try dsimp only at *
    refine run_seq ?_
    refine run_region (q_move .n (.t rfl) rfl <|
        q_assign .n (.t rfl) rfl <|
        Lex.nil) ?_
    exact run_ret [] (.cons (.t rfl rfl) .nil) rfl ⟨rfl, trivial⟩ rfl
  · intro rec1 k1 hk2 x1 i3
    obtain ⟨e10, e11, e12⟩ := i3
    try dsimp only at *
    refine run_seq ?_
    refine run_seq ?_
    refine run_region (q_move .n (.t rfl) rfl <|
        q_move .n (.t rfl) rfl <|
        q_len .n (.t rfl) rfl rfl ss_27 rfl <|
        q_int .n (.t rfl) (.t rfl) rfl rfl <|
        Lex.nil) ?_
    refine run_cond (.t rfl) rfl (fun h4 => ?_) (fun h4 => ?_)
    · try simp only [Bool.and_eq_true, Bool.or_eq_true, Bool.not_eq_true', Bool.and_eq_false_iff, Bool.or_eq_false_iff, Bool.not_eq_false', decide_eq_true_eq, decide_eq_false_iff_not, beq_iff_eq, bne_iff_ne, beq_eq_false_iff_ne, bne_eq_false_iff_eq, Bool.true_and, ne_eq, Decidable.not_not, Int.not_lt, Int.not_le, Nat.not_lt, Nat.not_le, strB_nil, strB_nil', strB_nnil, strB_nnil'] at h4
      refine run_skip ?_
      refine run_seq ?_
      refine run_block ?_
      refine run_seq ?_
      refine run_region (q_move .n (.t rfl) rfl <|
          q_move .n (.t rfl) rfl <|
          q_move .n (.t rfl) rfl <|
          q_call0 (full := false) .n .f en_53 (.cons (.t rfl) .nil) (.cons (.b (.a (.same rfl))) .nil) (fun hg => c_laws_markText x1.2.1 (by first | omega | assumption | (simp only [List.length_append, List.length_cons, List.length_nil, List.length_replicate, put_len] at * <;> omega) | (exact wr64_le))) rfl (fun h => Bool.noConfusion h) rfl <|
          q_idx_ow .n (.t rfl) (.t rfl) sl_27 (fun _ => by first | omega | assumption | (simp only [List.length_append, List.length_cons, List.length_nil, List.length_replicate, put_len] at * <;> omega) | (exact wr64_le)) rfl <|
          q_fld_ow .n (.t rfl) fo_83_0 rfl <|
          q_st_rowm (gCheck.mk (m_laws_markText x1.2.1) (at' x1.1 x1.2.2).Every (at' x1.1 x1.2.2).Last) .n rfl (.t rfl) (.t rfl) rfl ts_9 (by first | omega | assumption | (simp only [List.length_append, List.length_cons, List.length_nil, List.length_replicate, put_len] at * <;> omega) | (exact wr64_le)) rfl rfl <|
          Lex.nil) ?_
      refine run_seq ?_
      refine run_region (q_move .n (.t rfl) rfl <|
          q_int .n (.t rfl) (.c rfl) rfl rfl <|
          q_assign .n (.t rfl) rfl <|
          Lex.nil) ?_
      refine run_seq ?_
      refine run_region (q_move .n (.t rfl) rfl <|
          q_move .n (.t rfl) rfl <|
          q_move .n (.t rfl) rfl <|
          q_idx_ow .n (.t rfl) (.t rfl) sl_27 (fun _ => by first | omega | assumption | (simp only [List.length_append, List.length_cons, List.length_nil, List.length_replicate, put_len] at * <;> omega) | (exact wr64_le)) rfl <|
          q_fld_ow .n (.t rfl) fo_83_1 rfl <|
          q_st_rowp (gCheck.mk (m_laws_markText x1.2.1) (at' x1.1 x1.2.2).Every (at' x1.1 x1.2.2).Last) (gCheck.mk (m_laws_markText x1.2.1) (IntKind.wrap .i64 (x1.2.1 + 1)) (at' x1.1 x1.2.2).Last) .n rfl (.t rfl) (.t rfl) rfl ts_2 (by first | omega | assumption | (simp only [List.length_append, List.length_cons, List.length_nil, List.length_replicate, put_len] at * <;> omega) | (exact wr64_le)) rfl rfl <|
          Lex.nil) ?_
      refine run_seq ?_
      refine run_region (q_move .n (.t rfl) rfl <|
          q_int .n (.t rfl) (.c rfl) rfl rfl <|
          q_assign .n (.t rfl) rfl <|
          Lex.nil) ?_
      refine run_seq ?_
      refine run_region (q_move .n (.t rfl) rfl <|
          q_move .n (.t rfl) rfl <|
          q_move .n (.t rfl) rfl <|
          q_idx_ow .n (.t rfl) (.t rfl) sl_27 (fun _ => by first | omega | assumption | (simp only [List.length_append, List.length_cons, List.length_nil, List.length_replicate, put_len] at * <;> omega) | (exact wr64_le)) rfl <|
          q_fld_ow .n (.t rfl) fo_83_2 rfl <|
          q_st_rowp (gCheck.mk (m_laws_markText x1.2.1) (IntKind.wrap .i64 (x1.2.1 + 1)) (at' x1.1 x1.2.2).Last) (gCheck.mk (m_laws_markText x1.2.1) (IntKind.wrap .i64 (x1.2.1 + 1)) (IntKind.wrap .i64 ((IntKind.wrap .i64 (x1.2.1 + 1)) + 1))) .n rfl (.t rfl) (.t rfl) rfl ts_2 (by first | omega | assumption | (simp only [List.length_append, List.length_cons, List.length_nil, List.length_replicate, put_len] at * <;> omega) | (exact wr64_le)) rfl rfl <|
          Lex.nil) ?_
      refine run_region (q_move .n (.t rfl) rfl <|
          q_int .n (.t rfl) (.c rfl) rfl rfl <|
          q_assign .n (.t rfl) rfl <|
          Lex.nil) ?_
      refine run_endB ?_
      refine run_region (q_move .n (.t rfl) rfl <|
          q_add .n (.t rfl) (.c rfl) (fun _ => by first | omega | assumption | (simp only [List.length_append, List.length_cons, List.length_nil, List.length_replicate, put_len] at * <;> omega) | (exact wr64_le)) rfl <|
          q_assign .n (.t rfl) rfl <|
          Lex.nil) ?_
      exact run_again (put' x1.1 x1.2.2 (gCheck.mk (m_laws_markText x1.2.1) (IntKind.wrap .i64 (x1.2.1 + 1)) (IntKind.wrap .i64 ((IntKind.wrap .i64 (x1.2.1 + 1)) + 1))), IntKind.wrap .i64 ((IntKind.wrap .i64 ((IntKind.wrap .i64 (x1.2.1 + 1)) + 1)) + 1), x1.2.2 + 1) ⟨by first | omega | assumption | (simp only [List.length_append, List.length_cons, List.length_nil, List.length_replicate, put_len] at * <;> omega) | (exact wr64_le), by first | omega | assumption | (simp only [List.length_append, List.length_cons, List.length_nil, List.length_replicate, put_len] at * <;> omega) | (exact wr64_le), by first | omega | assumption | (simp only [List.length_append, List.length_cons, List.length_nil, List.length_replicate, put_len] at * <;> omega) | (exact wr64_le)⟩ (by first | omega | assumption | (simp only [List.length_append, List.length_cons, List.length_nil, List.length_replicate, put_len] at * <;> omega) | (exact wr64_le)) (sub_of [] ⟨os_len rfl (by first | (simp only [put_len]; done) | (first | omega | assumption | (simp only [List.length_append, List.length_cons, List.length_nil, List.length_replicate, put_len] at * <;> omega) | (exact wr64_le))), rfl, rfl, trivial⟩ ⟨rfl, trivial⟩ rfl)
    · try simp only [Bool.and_eq_true, Bool.or_eq_true, Bool.not_eq_true', Bool.and_eq_false_iff, Bool.or_eq_false_iff, Bool.not_eq_false', decide_eq_true_eq, decide_eq_false_iff_not, beq_iff_eq, bne_iff_ne, beq_eq_false_iff_ne, bne_eq_false_iff_eq, Bool.true_and, ne_eq, Decidable.not_not, Int.not_lt, Int.not_le, Nat.not_lt, Nat.not_le, strB_nil, strB_nil', strB_nnil, strB_nnil'] at h4
      refine run_exit rfl ?_
      exact run_cont hk2 (x1.1, x1.2.1, x1.2.2) ⟨by first | omega | assumption | (simp only [List.length_append, List.length_cons, List.length_nil, List.length_replicate, put_len] at * <;> omega) | (exact wr64_le), by first | omega | assumption | (simp only [List.length_append, List.length_cons, List.length_nil, List.length_replicate, put_len] at * <;> omega) | (exact wr64_le), by first | omega | assumption | (simp only [List.length_append, List.length_cons, List.length_nil, List.length_replicate, put_len] at * <;> omega) | (exact wr64_le), by first | omega | assumption | (simp only [List.length_append, List.length_cons, List.length_nil, List.length_replicate, put_len] at * <;> omega) | (exact wr64_le)⟩ (sub_of [] ⟨rfl, trivial⟩ ⟨rfl, trivial⟩ rfl)

/-! ### laws_markInt64S -/
theorem c_laws_markInt64S (a : List Int) (k_ : Int) : Con Try.prog 14 [.os 0 a.length, .int .i64 k_] [(0, some (.row 2 1 (a.map (V.int .i64))))] (.int .i64 (m_laws_markInt64S a k_).1) ([(0, some (.row 2 1 ((m_laws_markInt64S a k_).2.map (V.int .i64))))]) := by
  refine con_intro (out := fun r : Int × (List Int) => ((.int .i64 r.1 : V), ([(0, some (.row 2 1 (r.2.map (V.int .i64))))] : List (Nat × Option O)))) (r := (m_laws_markInt64S a k_)) Try.func14 rfl Try.ntmps14 rfl ?_
  refine run_factH (l := 0) rfl fun hl => ?_
  have l1 := hl; clear hl; simp only [List.length_map] at l1
  refine run_seq ?_
  refine run_region (q_assign .n (.c rfl) rfl <|
      Lex.nil) ?_
  refine run_seq ?_
  refine run_seq ?_
  refine run_region (q_assign .n (.c rfl) rfl <|
      Lex.nil) ?_
  refine run_block ?_
  refine run_LOOP (m_laws_markInt64S_b1 a k_) _ _ _ rfl (fun (x1 : (List Int) × Int × Int) => 0 ≤ x1.2.2 ∧ x1.1.length = a.length) (fun x1 => 0 ≤ x1.2.2 ∧ x1.1.length = a.length ∧ (x1.1.length : Int) ≤ x1.2.2) (fun x1 => ((x1.1.length : Int) - x1.2.2 : Int).toNat) (fun x1 => ⟨[(0, some (true, .os 0 x1.1.length)), (1, some (true, .int .i64 x1.2.1)), (5, some (true, .int .i64 x1.2.2))], [(0, some (.row 2 1 (x1.1.map (V.int .i64))))]⟩) (fun x1 => ⟨[(1, some (true, .int .i64 x1.2.1))], [(0, some (.row 2 1 (x1.1.map (V.int .i64))))]⟩) ⟨by first | omega | assumption | (simp only [List.length_append, List.length_cons, List.length_nil, List.length_replicate, put_len] at * <;> omega), by first | omega | assumption | (simp only [List.length_append, List.length_cons, List.length_nil, List.length_replicate, put_len] at * <;> omega)⟩ (by first | omega | assumption | (simp only [List.length_append, List.length_cons, List.length_nil, List.length_replicate, put_len] at * <;> omega)) (sub_of [] ⟨rfl, rfl, rfl, trivial⟩ ⟨rfl, trivial⟩ rfl) ?_ ?_
  · intro x1 i5
    obtain ⟨e6, e7, e8⟩ := i5
    try dsimp only at *
    refine run_seq ?_
    refine run_region (q_move .n (.t rfl) rfl <|
        q_assign .n (.t rfl) rfl <|
        Lex.nil) ?_
    exact run_ret [] (.cons (.t rfl rfl) .nil) rfl ⟨rfl, trivial⟩ rfl
  · intro rec1 k1 hk2 x1 i3
    obtain ⟨e9, e10⟩ := i3
    try dsimp only at *
    refine run_seq ?_
    refine run_seq ?_
    refine run_region (q_move .n (.t rfl) rfl <|
        q_move .n (.t rfl) rfl <|
        q_len .n (.t rfl) rfl rfl ss_24 rfl <|
        q_int .n (.t rfl) (.t rfl) rfl rfl <|
        Lex.nil) ?_
    refine run_cond (.t rfl) rfl (fun h4 => ?_) (fun h4 => ?_)
    · try simp only [Bool.and_eq_true, Bool.or_eq_true, Bool.not_eq_true', Bool.and_eq_false_iff, Bool.or_eq_false_iff, Bool.not_eq_false', decide_eq_true_eq, decide_eq_false_iff_not, beq_iff_eq, bne_iff_ne, beq_eq_false_iff_ne, bne_eq_false_iff_eq, Bool.true_and, ne_eq, Decidable.not_not, Int.not_lt, Int.not_le, Nat.not_lt, Nat.not_le, strB_nil, strB_nil', strB_nnil, strB_nnil'] at h4
      refine run_skip ?_
      refine run_seq ?_
      refine run_block ?_
      refine run_seq ?_
      refine run_region (q_move .n (.t rfl) rfl <|
          q_move .n (.t rfl) rfl <|
          q_move .n (.t rfl) rfl <|
          q_idx_ow .n (.t rfl) (.t rfl) sl_24 (fun _ => by first | omega | assumption | (simp only [List.length_append, List.length_cons, List.length_nil, List.length_replicate, put_len] at * <;> omega)) rfl <|
          q_st_rowm x1.2.1 .n rfl (.t rfl) (.t rfl) rfl ts_2 (by first | omega | assumption | (simp only [List.length_append, List.length_cons, List.length_nil, List.length_replicate, put_len] at * <;> omega)) rfl rfl <|
          Lex.nil) ?_
      refine run_region (q_move .n (.t rfl) rfl <|
          q_int .n (.t rfl) (.c rfl) rfl rfl <|
          q_assign .n (.t rfl) rfl <|
          Lex.nil) ?_
      refine run_endB ?_
      refine run_region (q_move .n (.t rfl) rfl <|
          q_add .n (.t rfl) (.c rfl) (fun _ => by first | omega | assumption | (simp only [List.length_append, List.length_cons, List.length_nil, List.length_replicate, put_len] at * <;> omega)) rfl <|
          q_assign .n (.t rfl) rfl <|
          Lex.nil) ?_
      exact run_again (put' x1.1 x1.2.2 x1.2.1, IntKind.wrap .i64 (x1.2.1 + 1), x1.2.2 + 1) ⟨by first | omega | assumption | (simp only [List.length_append, List.length_cons, List.length_nil, List.length_replicate, put_len] at * <;> omega), by first | omega | assumption | (simp only [List.length_append, List.length_cons, List.length_nil, List.length_replicate, put_len] at * <;> omega)⟩ (by first | omega | assumption | (simp only [List.length_append, List.length_cons, List.length_nil, List.length_replicate, put_len] at * <;> omega)) (sub_of [] ⟨os_len rfl (by first | (simp only [put_len]; done) | (first | omega | assumption | (simp only [List.length_append, List.length_cons, List.length_nil, List.length_replicate, put_len] at * <;> omega))), rfl, rfl, trivial⟩ ⟨rfl, trivial⟩ rfl)
    · try simp only [Bool.and_eq_true, Bool.or_eq_true, Bool.not_eq_true', Bool.and_eq_false_iff, Bool.or_eq_false_iff, Bool.not_eq_false', decide_eq_true_eq, decide_eq_false_iff_not, beq_iff_eq, bne_iff_ne, beq_eq_false_iff_ne, bne_eq_false_iff_eq, Bool.true_and, ne_eq, Decidable.not_not, Int.not_lt, Int.not_le, Nat.not_lt, Nat.not_le, strB_nil, strB_nil', strB_nnil, strB_nnil'] at h4
      refine run_exit rfl ?_
      exact run_cont hk2 (x1.1, x1.2.1, x1.2.2) ⟨by first | omega | assumption | (simp only [List.length_append, List.length_cons, List.length_nil, List.length_replicate, put_len] at * <;> omega), by first | omega | assumption | (simp only [List.length_append, List.length_cons, List.length_nil, List.length_replicate, put_len] at * <;> omega), by first | omega | assumption | (simp only [List.length_append, List.length_cons, List.length_nil, List.length_replicate, put_len] at * <;> omega)⟩ (sub_of [] ⟨rfl, trivial⟩ ⟨rfl, trivial⟩ rfl)

/-! ### laws_heldInt64S -/
theorem c_laws_heldInt64S (a : List Int) (k_ : Int) : Con Try.prog 15 [.sl 1 (a.map (V.int .i64)), .int .i64 k_] [] (.int .i64 (m_laws_heldInt64S a k_)) ([]) := by
  refine con_intro (out := fun r : Int => ((.int .i64 r : V), ([] : List (Nat × Option O)))) (r := (m_laws_heldInt64S a k_)) Try.func15 rfl Try.ntmps15 rfl ?_
  refine run_fact (t := 0) rfl fun hl => ?_
  have l1 := hl; clear hl; simp only [List.length_map] at l1
  refine run_seq ?_
  refine run_region (q_assign .n (.c rfl) rfl <|
      Lex.nil) ?_
  refine run_seq ?_
  refine run_seq ?_
  refine run_region (q_assign .n (.c rfl) rfl <|
      Lex.nil) ?_
  refine run_block ?_
  refine run_LOOP (m_laws_heldInt64S_b1 a k_) _ _ _ rfl (fun (x1 : Int × Int) => 0 ≤ x1.2 ∧ x1.2 ≤ (a.length : Int)) (fun x1 => 0 ≤ x1.2 ∧ x1.2 ≤ (a.length : Int) ∧ (a.length : Int) ≤ x1.2) (fun x1 => ((a.length : Int) - x1.2 : Int).toNat) (fun x1 => ⟨[(0, some (true, .sl 1 (a.map (V.int .i64)))), (1, some (true, .int .i64 x1.1)), (5, some (true, .int .i64 x1.2))], []⟩) (fun x1 => ⟨[(1, some (true, .int .i64 x1.1))], []⟩) ⟨by first | omega | assumption | (simp only [List.length_append, List.length_cons, List.length_nil, List.length_replicate, put_len] at * <;> omega), by first | omega | assumption | (simp only [List.length_append, List.length_cons, List.length_nil, List.length_replicate, put_len] at * <;> omega)⟩ (by first | omega | assumption | (simp only [List.length_append, List.length_cons, List.length_nil, List.length_replicate, put_len] at * <;> omega)) (sub_of [] ⟨rfl, rfl, rfl, trivial⟩ trivial rfl) ?_ ?_
  · intro x1 i6
    obtain ⟨e7, e8, e9⟩ := i6
    try dsimp only at *
    refine run_seq ?_
    refine run_region (q_move .n (.t rfl) rfl <|
        q_assign .n (.t rfl) rfl <|
        Lex.nil) ?_
    exact run_ret [] (.cons (.t rfl rfl) .nil) rfl trivial rfl
  · intro rec1 k1 hk2 x1 i3
    obtain ⟨e10, e11⟩ := i3
    try dsimp only at *
    refine run_seq ?_
    refine run_seq ?_
    refine run_region (q_move .n (.t rfl) rfl <|
        q_move .n (.t rfl) rfl <|
        q_len .n (.t rfl) rfl len_map ss_24 rfl <|
        q_int .n (.t rfl) (.t rfl) rfl rfl <|
        Lex.nil) ?_
    refine run_cond (.t rfl) rfl (fun h4 => ?_) (fun h4 => ?_)
    · try simp only [Bool.and_eq_true, Bool.or_eq_true, Bool.not_eq_true', Bool.and_eq_false_iff, Bool.or_eq_false_iff, Bool.not_eq_false', decide_eq_true_eq, decide_eq_false_iff_not, beq_iff_eq, bne_iff_ne, beq_eq_false_iff_ne, bne_eq_false_iff_eq, Bool.true_and, ne_eq, Decidable.not_not, Int.not_lt, Int.not_le, Nat.not_lt, Nat.not_le, strB_nil, strB_nil', strB_nnil, strB_nnil'] at h4
      refine run_skip ?_
      refine run_seq ?_
      refine run_block ?_
      refine run_seq ?_
      refine run_seq ?_
      refine run_region (q_move .n (.t rfl) rfl <|
          q_move .n (.t rfl) rfl <|
          q_idx_rm .n (.t rfl) (.t rfl) sl_24 (fun _ => by first | omega | assumption | (simp only [List.length_append, List.length_cons, List.length_nil, List.length_replicate, put_len] at * <;> omega)) rfl <|
          q_ld1_ro .n (.t rfl) rfl ic_2 rfl <|
          q_move .n (.t rfl) rfl <|
          q_int .n (.t rfl) (.t rfl) rfl rfl <|
          Lex.nil) ?_
      refine run_cond (.t rfl) rfl (fun h5 => ?_) (fun h5 => ?_)
      · try simp only [Bool.and_eq_true, Bool.or_eq_true, Bool.not_eq_true', Bool.and_eq_false_iff, Bool.or_eq_false_iff, Bool.not_eq_false', decide_eq_true_eq, decide_eq_false_iff_not, beq_iff_eq, bne_iff_ne, beq_eq_false_iff_ne, bne_eq_false_iff_eq, Bool.true_and, ne_eq, Decidable.not_not, Int.not_lt, Int.not_le, Nat.not_lt, Nat.not_le, strB_nil, strB_nil', strB_nnil, strB_nnil'] at h5
        refine run_seq ?_
        refine run_region (q_assign .n (.c rfl) rfl <|
            Lex.nil) ?_
        exact run_ret [] (.cons (.t rfl rfl) .nil) rfl trivial rfl
      · try simp only [Bool.and_eq_true, Bool.or_eq_true, Bool.not_eq_true', Bool.and_eq_false_iff, Bool.or_eq_false_iff, Bool.not_eq_false', decide_eq_true_eq, decide_eq_false_iff_not, beq_iff_eq, bne_iff_ne, beq_eq_false_iff_ne, bne_eq_false_iff_eq, Bool.true_and, ne_eq, Decidable.not_not, Int.not_lt, Int.not_le, Nat.not_lt, Nat.not_le, strB_nil, strB_nil', strB_nnil, strB_nnil'] at h5
        refine run_skip ?_
        refine run_region (q_move .n (.t rfl) rfl <|
            q_int .n (.t rfl) (.c rfl) rfl rfl <|
            q_assign .n (.t rfl) rfl <|
            Lex.nil) ?_
        refine run_endB ?_
        refine run_region (q_move .n (.t rfl) rfl <|
            q_add .n (.t rfl) (.c rfl) (fun _ => by first | omega | assumption | (simp only [List.length_append, List.length_cons, List.length_nil, List.length_replicate, put_len] at * <;> omega)) rfl <|
            q_assign .n (.t rfl) rfl <|
            Lex.nil) ?_
        exact run_again (IntKind.wrap .i64 (x1.1 + 1), x1.2 + 1) ⟨by first | omega | assumption | (simp only [List.length_append, List.length_cons, List.length_nil, List.length_replicate, put_len] at * <;> omega), by first | omega | assumption | (simp only [List.length_append, List.length_cons, List.length_nil, List.length_replicate, put_len] at * <;> omega)⟩ (by first | omega | assumption | (simp only [List.length_append, List.length_cons, List.length_nil, List.length_replicate, put_len] at * <;> omega)) (sub_of [] ⟨rfl, rfl, rfl, trivial⟩ trivial rfl)
    · try simp only [Bool.and_eq_true, Bool.or_eq_true, Bool.not_eq_true', Bool.and_eq_false_iff, Bool.or_eq_false_iff, Bool.not_eq_false', decide_eq_true_eq, decide_eq_false_iff_not, beq_iff_eq, bne_iff_ne, beq_eq_false_iff_ne, bne_eq_false_iff_eq, Bool.true_and, ne_eq, Decidable.not_not, Int.not_lt, Int.not_le, Nat.not_lt, Nat.not_le, strB_nil, strB_nil', strB_nnil, strB_nnil'] at h4
      refine run_exit rfl ?_
      exact run_cont hk2 (x1.1, x1.2) ⟨by first | omega | assumption | (simp only [List.length_append, List.length_cons, List.length_nil, List.length_replicate, put_len] at * <;> omega), by first | omega | assumption | (simp only [List.length_append, List.length_cons, List.length_nil, List.length_replicate, put_len] at * <;> omega), by first | omega | assumption | (simp only [List.length_append, List.length_cons, List.length_nil, List.length_replicate, put_len] at * <;> omega)⟩ (sub_of [] ⟨rfl, trivial⟩ trivial rfl)

/-! ### laws_FnExactSpreadChecks -/
theorem c_laws_FnExactSpreadChecks (aList : List gCheck) (aFrom : Int) (aPerDay : Int) (hp1 : aList.length ≤ 9223372036854775807 ∧ ∀ y ∈ aList, gCheck.ok y) (hp2 : -9223372036854775808 ≤ aFrom ∧ aFrom ≤ 9223372036854775807) (hp3 : -9223372036854775808 ≤ aPerDay ∧ aPerDay ≤ 9223372036854775807) : Con Try.prog 3 [.sl 3 (aList.map gCheck.v), .int .i64 aFrom, .int .i64 aPerDay] [] (.bool (m_laws_FnExactSpreadChecks aList aFrom aPerDay)) ([]) := by
  refine con_intro (out := fun r : Bool => ((.bool r : V), ([] : List (Nat × Option O)))) (r := (m_laws_FnExactSpreadChecks aList aFrom aPerDay)) Try.func3 rfl Try.ntmps3 rfl ?_
  refine run_fact (t := 0) rfl fun hl => ?_
  have l1 := hl; clear hl; simp only [List.length_map] at l1
  refine run_seq ?_
  refine run_region (q_assign .n (.c rfl) rfl <|
      Lex.nil) ?_
  refine run_seq ?_
  refine run_region (q_assign .n (.c rfl) rfl <|
      Lex.nil) ?_
  refine run_seq ?_
  refine run_region (q_move .n (.t rfl) rfl <|
      q_move .n (.t rfl) rfl <|
      q_call0 (full := false) .n .f en_7 (.cons (.t rfl) (.cons (.t rfl) .nil)) (.cons (.b (.a (.same rfl))) (.cons (.b (.a (.same rfl))) .nil)) (fun hg => c_laws_szCheckS aList 1048576) rfl (fun h => Bool.noConfusion h) rfl <|
      q_assign .n (.t rfl) rfl <|
      Lex.nil) ?_
  refine run_seq ?_
  refine run_seq ?_
  refine run_region (q_move .n (.t rfl) rfl <|
      q_int .n (.t rfl) (.c rfl) rfl rfl <|
      Lex.nil) ?_
  refine run_cond (.t rfl) rfl (fun h2 => ?_) (fun h2 => ?_)
  · try simp only [Bool.and_eq_true, Bool.or_eq_true, Bool.not_eq_true', Bool.and_eq_false_iff, Bool.or_eq_false_iff, Bool.not_eq_false', decide_eq_true_eq, decide_eq_false_iff_not, beq_iff_eq, bne_iff_ne, beq_eq_false_iff_ne, bne_eq_false_iff_eq, Bool.true_and, ne_eq, Decidable.not_not, Int.not_lt, Int.not_le, Nat.not_lt, Nat.not_le, strB_nil, strB_nil', strB_nnil, strB_nnil'] at h2
    try have hf0h2 := szCheckS_impA (by assumption) (by omega) (by omega) h2
    try have hf1h2 := szCheckS_impA (by assumption) (by omega) (by omega) h2.1
    try have hf2h2 := szCheckS_impA (by assumption) (by omega) (by omega) h2.2
    try have hf3h2 := szCheckS_impA (by assumption) (by omega) (by omega) h2.1.1
    try have hf4h2 := szCheckS_impA (by assumption) (by omega) (by omega) h2.1.2
    try have hf5h2 := szCheckS_impA (by assumption) (by omega) (by omega) h2.2.1
    try have hf6h2 := szCheckS_impA (by assumption) (by omega) (by omega) h2.2.2
    try have hf7h2 := szCheckS_impB (by assumption) (by omega) (by omega) h2
    try have hf8h2 := szCheckS_impB (by assumption) (by omega) (by omega) h2.1
    try have hf9h2 := szCheckS_impB (by assumption) (by omega) (by omega) h2.2
    try have hf10h2 := szCheckS_impB (by assumption) (by omega) (by omega) h2.1.1
    try have hf11h2 := szCheckS_impB (by assumption) (by omega) (by omega) h2.1.2
    try have hf12h2 := szCheckS_impB (by assumption) (by omega) (by omega) h2.2.1
    try have hf13h2 := szCheckS_impB (by assumption) (by omega) (by omega) h2.2.2
    refine run_seq ?_
    refine run_region (q_assign .n (.c rfl) rfl <|
        Lex.nil) ?_
    exact run_ret [] (.cons (.t rfl rfl) .nil) rfl trivial rfl
  · try simp only [Bool.and_eq_true, Bool.or_eq_true, Bool.not_eq_true', Bool.and_eq_false_iff, Bool.or_eq_false_iff, Bool.not_eq_false', decide_eq_true_eq, decide_eq_false_iff_not, beq_iff_eq, bne_iff_ne, beq_eq_false_iff_ne, bne_eq_false_iff_eq, Bool.true_and, ne_eq, Decidable.not_not, Int.not_lt, Int.not_le, Nat.not_lt, Nat.not_le, strB_nil, strB_nil', strB_nnil, strB_nnil'] at h2
    try have hf0h2 := szCheckS_impA (by assumption) (by omega) (by omega) h2
    try have hf1h2 := szCheckS_impA (by assumption) (by omega) (by omega) h2.1
    try have hf2h2 := szCheckS_impA (by assumption) (by omega) (by omega) h2.2
    try have hf3h2 := szCheckS_impA (by assumption) (by omega) (by omega) h2.1.1
    try have hf4h2 := szCheckS_impA (by assumption) (by omega) (by omega) h2.1.2
    try have hf5h2 := szCheckS_impA (by assumption) (by omega) (by omega) h2.2.1
    try have hf6h2 := szCheckS_impA (by assumption) (by omega) (by omega) h2.2.2
    try have hf7h2 := szCheckS_impB (by assumption) (by omega) (by omega) h2
    try have hf8h2 := szCheckS_impB (by assumption) (by omega) (by omega) h2.1
    try have hf9h2 := szCheckS_impB (by assumption) (by omega) (by omega) h2.2
    try have hf10h2 := szCheckS_impB (by assumption) (by omega) (by omega) h2.1.1
    try have hf11h2 := szCheckS_impB (by assumption) (by omega) (by omega) h2.1.2
    try have hf12h2 := szCheckS_impB (by assumption) (by omega) (by omega) h2.2.1
    try have hf13h2 := szCheckS_impB (by assumption) (by omega) (by omega) h2.2.2
    refine run_skip ?_
    refine run_seq ?_
    refine run_region (q_move .n (.t rfl) rfl <|
        q_callM (full := false) [] [(100, 200)] .n rfl .f en_9 (.cons (.t rfl) .nil) (.cons (.b (.a (.same rfl))) .nil) (c_laws_toCheckS aList (by first | omega | assumption | (simp only [List.length_append, List.length_cons, List.length_nil, List.length_replicate, put_len] at * <;> omega) | (exact wr64_le) | ((simp only [toCheck_eq, toCheckS_eq] at *; omega)) | ((repeat (first | omega | refine markCheckS_le ?_ | refine markInt64S_le ?_))))) trivial rfl rfl (fun h => Bool.noConfusion h) (fun h => Bool.noConfusion h) rfl <|
        q_move .n (.t rfl) rfl <|
        q_move .n (.t rfl) rfl <|
        q_callM (full := true) [] [(100, 201)] .n rfl .f en_8 (.cons (.t rfl) (.cons (.t rfl) (.cons (.t rfl) .nil))) (.cons (.b (.a (.own rfl rfl rfl (take_all (by simp only [len_map, put_len, markCheckS_len, markInt64S_len] <;> rfl)) (by simp only [len_map, put_len, markCheckS_len, markInt64S_len] <;> rfl)))) (.cons (.b (.a (.same rfl))) (.cons (.b (.a (.same rfl))) .nil))) (c_spec_SpreadChecks (m_laws_toCheckS aList) aFrom aPerDay) trivial rfl rfl (fun _ => rfl) (fun _ => (hr_row (fun _ => rfl) hr_nil)) rfl <|
        q_move .n (.t rfl) rfl <|
        q_ext .n (.t rfl) rfl rfl rfl <|
        q_ext .n (.t rfl) rfl rfl rfl <|
        q_assign .n (.t rfl) rfl <|
        q_assign .n (.t rfl) rfl <|
        Lex.nil) ?_
    refine run_seq ?_
    refine run_region (q_move .n (.t rfl) rfl <|
        q_callM (full := false) [] [(100, 202)] .n rfl .f en_9 (.cons (.t rfl) .nil) (.cons (.b (.a (.same rfl))) .nil) (c_laws_toCheckS aList (by first | omega | assumption | (simp only [List.length_append, List.length_cons, List.length_nil, List.length_replicate, put_len] at * <;> omega) | (exact wr64_le) | ((simp only [toCheck_eq, toCheckS_eq] at *; omega)) | ((repeat (first | omega | refine markCheckS_le ?_ | refine markInt64S_le ?_))))) trivial rfl rfl (fun h => Bool.noConfusion h) (fun h => Bool.noConfusion h) rfl <|
        q_assign .n (.t rfl) rfl <|
        Lex.nil) ?_
    refine run_seq ?_
    refine run_region (q_move .n (.t rfl) rfl <|
        q_move .n (.t rfl) rfl <|
        q_move .n (.t rfl) rfl <|
        q_callM (full := true) [] [(100, 203)] .n rfl .f en_10 (.cons (.t rfl) (.cons (.t rfl) (.cons (.t rfl) .nil))) (.cons (.b (.a (.own rfl rfl rfl (take_all (by simp only [len_map, put_len, markCheckS_len, markInt64S_len] <;> rfl)) (by simp only [len_map, put_len, markCheckS_len, markInt64S_len] <;> rfl)))) (.cons (.b (.a (.same rfl))) (.cons (.b (.a (.same rfl))) .nil))) (c_impl_SpreadChecks (m_laws_toCheckS aList) aFrom aPerDay) trivial rfl rfl (fun _ => rfl) (fun _ => (hr_row (fun _ => rfl) hr_nil)) rfl <|
        q_move .n (.t rfl) rfl <|
        q_ext .n (.t rfl) rfl rfl rfl <|
        q_ext .n (.t rfl) rfl rfl rfl <|
        q_assign .n (.t rfl) rfl <|
        q_assign .n (.t rfl) rfl <|
        Lex.nil) ?_
    refine run_seq ?_
    refine run_seq ?_
    refine run_region (q_move .n (.t rfl) rfl <|
        q_move .n (.t rfl) rfl <|
        q_call0 (full := true) .n .f en_11 (.cons (.t rfl) (.cons (.t rfl) .nil)) (.cons (.b (.a (.own rfl rfl rfl (take_all (by simp only [len_map, put_len, markCheckS_len, markInt64S_len] <;> rfl)) (by simp only [len_map, put_len, markCheckS_len, markInt64S_len] <;> rfl)))) (.cons (.b (.a (.own rfl rfl rfl (take_all (by simp only [len_map, put_len, markCheckS_len, markInt64S_len] <;> rfl)) (by simp only [len_map, put_len, markCheckS_len, markInt64S_len] <;> rfl)))) .nil)) (fun hg => c_laws_eqInt64S (m_impl_SpreadChecks (m_laws_toCheckS aList) aFrom aPerDay).1 (m_spec_SpreadChecks (m_laws_toCheckS aList) aFrom aPerDay).1) rfl (fun _ => rfl) rfl <|
        q_not .n (.t rfl) rfl <|
        q_move .n (.t rfl) rfl <|
        q_move (.f rfl rfl) (.t rfl) rfl <|
        q_move (.f rfl rfl) (.t rfl) rfl <|
        q_int (.f rfl rfl) (.u rfl id) (.u rfl id) rfl rfl <|
        q_or .n (.t rfl) (.u rfl id) rfl <|
        Lex.nil) ?_
    refine run_cond (.t rfl) rfl (fun h3 => ?_) (fun h3 => ?_)
    · try simp only [Bool.and_eq_true, Bool.or_eq_true, Bool.not_eq_true', Bool.and_eq_false_iff, Bool.or_eq_false_iff, Bool.not_eq_false', decide_eq_true_eq, decide_eq_false_iff_not, beq_iff_eq, bne_iff_ne, beq_eq_false_iff_ne, bne_eq_false_iff_eq, Bool.true_and, ne_eq, Decidable.not_not, Int.not_lt, Int.not_le, Nat.not_lt, Nat.not_le, strB_nil, strB_nil', strB_nnil, strB_nnil'] at h3
      refine run_seq ?_
      refine run_region (q_assign .n (.c rfl) rfl <|
          Lex.nil) ?_
      exact run_ret [] (.cons (.t rfl rfl) .nil) rfl trivial rfl
    · try simp only [Bool.and_eq_true, Bool.or_eq_true, Bool.not_eq_true', Bool.and_eq_false_iff, Bool.or_eq_false_iff, Bool.not_eq_false', decide_eq_true_eq, decide_eq_false_iff_not, beq_iff_eq, bne_iff_ne, beq_eq_false_iff_ne, bne_eq_false_iff_eq, Bool.true_and, ne_eq, Decidable.not_not, Int.not_lt, Int.not_le, Nat.not_lt, Nat.not_le, strB_nil, strB_nil', strB_nnil, strB_nnil'] at h3
      refine run_skip ?_
      refine run_seq ?_
      refine run_seq ?_
      refine run_region (q_move .n (.t rfl) rfl <|
          q_move .n (.t rfl) rfl <|
          q_callM (full := false) [] [(100, 204)] .n rfl .f en_9 (.cons (.t rfl) .nil) (.cons (.b (.a (.same rfl))) .nil) (c_laws_toCheckS aList (by first | omega | assumption | (simp only [List.length_append, List.length_cons, List.length_nil, List.length_replicate, put_len] at * <;> omega) | (exact wr64_le) | ((simp only [toCheck_eq, toCheckS_eq] at *; omega)) | ((repeat (first | omega | refine markCheckS_le ?_ | refine markInt64S_le ?_))))) trivial rfl rfl (fun h => Bool.noConfusion h) (fun h => Bool.noConfusion h) rfl <|
          q_call0 (full := true) .n .f en_12 (.cons (.t rfl) (.cons (.t rfl) .nil)) (.cons (.b (.a (.own rfl rfl rfl (take_all (by simp only [len_map, put_len, markCheckS_len, markInt64S_len] <;> rfl)) (by simp only [len_map, put_len, markCheckS_len, markInt64S_len] <;> rfl)))) (.cons (.b (.a (.own rfl rfl rfl (take_all (by simp only [len_map, put_len, markCheckS_len, markInt64S_len] <;> rfl)) (by simp only [len_map, put_len, markCheckS_len, markInt64S_len] <;> rfl)))) .nil)) (fun hg => c_laws_eqCheckS (m_laws_toCheckS aList) (m_laws_toCheckS aList)) rfl (fun _ => rfl) rfl <|
          q_not .n (.t rfl) rfl <|
          Lex.nil) ?_
      refine run_cond (.t rfl) rfl (fun h4 => ?_) (fun h4 => ?_)
      · try simp only [Bool.and_eq_true, Bool.or_eq_true, Bool.not_eq_true', Bool.and_eq_false_iff, Bool.or_eq_false_iff, Bool.not_eq_false', decide_eq_true_eq, decide_eq_false_iff_not, beq_iff_eq, bne_iff_ne, beq_eq_false_iff_ne, bne_eq_false_iff_eq, Bool.true_and, ne_eq, Decidable.not_not, Int.not_lt, Int.not_le, Nat.not_lt, Nat.not_le, strB_nil, strB_nil', strB_nnil, strB_nnil'] at h4
        refine run_seq ?_
        refine run_region (q_assign .n (.c rfl) rfl <|
            Lex.nil) ?_
        exact run_ret [] (.cons (.t rfl rfl) .nil) rfl trivial rfl
      · try simp only [Bool.and_eq_true, Bool.or_eq_true, Bool.not_eq_true', Bool.and_eq_false_iff, Bool.or_eq_false_iff, Bool.not_eq_false', decide_eq_true_eq, decide_eq_false_iff_not, beq_iff_eq, bne_iff_ne, beq_eq_false_iff_ne, bne_eq_false_iff_eq, Bool.true_and, ne_eq, Decidable.not_not, Int.not_lt, Int.not_le, Nat.not_lt, Nat.not_le, strB_nil, strB_nil', strB_nnil, strB_nnil'] at h4
        refine run_skip ?_
        refine run_seq ?_
        refine run_region (q_assign .n (.c rfl) rfl <|
            Lex.nil) ?_
        refine run_seq ?_
        refine run_region (q_move .n (.t rfl) rfl <|
            q_move .n (.t rfl) rfl <|
            q_callM (full := false) [(0, 202)] [] .n rfl .f en_13 (.cons (.t rfl) (.cons (.t rfl) .nil)) (.cons (.b (.muts rfl)) (.cons (.b (.a (.same rfl))) .nil)) (c_laws_markCheckS (m_laws_toCheckS aList) 1 (by first | omega | assumption | (simp only [List.length_append, List.length_cons, List.length_nil, List.length_replicate, put_len] at * <;> omega) | (exact wr64_le) | ((simp only [toCheck_eq, toCheckS_eq] at *; omega)) | ((repeat (first | omega | refine markCheckS_le ?_ | refine markInt64S_le ?_))))) ⟨rfl, trivial⟩ rfl rfl (fun h => Bool.noConfusion h) (fun h => Bool.noConfusion h) rfl <|
            q_assign .n (.t rfl) rfl <|
            Lex.nil) ?_
        refine run_seq ?_
        refine run_seq ?_
        refine run_region (q_move .n (.t rfl) rfl <|
            q_int .n (.t rfl) (.c rfl) rfl rfl <|
            q_move .n (.t rfl) rfl <|
            q_move (.f rfl rfl) (.t rfl) rfl <|
            q_move (.f rfl rfl) (.t rfl) rfl <|
            q_call0 (full := true) (.f rfl rfl) .f en_11 (.cons (.u rfl id) (.cons (.u rfl id) .nil)) (.cons (.b (.a (.own rfl rfl rfl (take_all (by simp only [len_map, put_len, markCheckS_len, markInt64S_len] <;> rfl)) (by simp only [len_map, put_len, markCheckS_len, markInt64S_len] <;> rfl)))) (.cons (.b (.a (.own rfl rfl rfl (take_all (by simp only [len_map, put_len, markCheckS_len, markInt64S_len] <;> rfl)) (by simp only [len_map, put_len, markCheckS_len, markInt64S_len] <;> rfl)))) .nil)) (fun hg => c_laws_eqInt64S (m_impl_SpreadChecks (m_laws_toCheckS aList) aFrom aPerDay).1 (m_spec_SpreadChecks (m_laws_toCheckS aList) aFrom aPerDay).1) rfl (fun _ => rfl) rfl <|
            q_not (.f rfl rfl) (.u rfl id) rfl <|
            q_or .n (.t rfl) (.u rfl id) rfl <|
            q_move .n (.t rfl) rfl <|
            q_move (.f rfl rfl) (.t rfl) rfl <|
            q_move (.f rfl rfl) (.t rfl) rfl <|
            q_int (.f rfl rfl) (.u rfl id) (.u rfl id) rfl rfl <|
            q_or .n (.t rfl) (.u rfl id) rfl <|
            Lex.nil) ?_
        refine run_cond (.t rfl) rfl (fun h5 => ?_) (fun h5 => ?_)
        · try simp only [Bool.and_eq_true, Bool.or_eq_true, Bool.not_eq_true', Bool.and_eq_false_iff, Bool.or_eq_false_iff, Bool.not_eq_false', decide_eq_true_eq, decide_eq_false_iff_not, beq_iff_eq, bne_iff_ne, beq_eq_false_iff_ne, bne_eq_false_iff_eq, Bool.true_and, ne_eq, Decidable.not_not, Int.not_lt, Int.not_le, Nat.not_lt, Nat.not_le, strB_nil, strB_nil', strB_nnil, strB_nnil'] at h5
          refine run_seq ?_
          refine run_region (q_assign .n (.c rfl) rfl <|
              Lex.nil) ?_
          exact run_ret [] (.cons (.t rfl rfl) .nil) rfl trivial rfl
        · try simp only [Bool.and_eq_true, Bool.or_eq_true, Bool.not_eq_true', Bool.and_eq_false_iff, Bool.or_eq_false_iff, Bool.not_eq_false', decide_eq_true_eq, decide_eq_false_iff_not, beq_iff_eq, bne_iff_ne, beq_eq_false_iff_ne, bne_eq_false_iff_eq, Bool.true_and, ne_eq, Decidable.not_not, Int.not_lt, Int.not_le, Nat.not_lt, Nat.not_le, strB_nil, strB_nil', strB_nnil, strB_nnil'] at h5
          refine run_skip ?_
          refine run_seq ?_
          refine run_region (q_assign .n (.c rfl) rfl <|
              Lex.nil) ?_
          refine run_seq ?_
          refine run_region (q_move .n (.t rfl) rfl <|
              q_move .n (.t rfl) rfl <|
              q_callM (full := false) [(0, 203)] [] .n rfl .f en_14 (.cons (.t rfl) (.cons (.t rfl) .nil)) (.cons (.b (.muts rfl)) (.cons (.b (.a (.same rfl))) .nil)) (c_laws_markInt64S (m_impl_SpreadChecks (m_laws_toCheckS aList) aFrom aPerDay).1 1) ⟨rfl, trivial⟩ rfl rfl (fun h => Bool.noConfusion h) (fun h => Bool.noConfusion h) rfl <|
              q_assign .n (.t rfl) rfl <|
              Lex.nil) ?_
          refine run_seq ?_
          refine run_region (q_assign .n (.c rfl) rfl <|
              Lex.nil) ?_
          refine run_seq ?_
          refine run_region (q_move .n (.t rfl) rfl <|
              q_move .n (.t rfl) rfl <|
              q_call0 (full := true) .n .f en_15 (.cons (.t rfl) (.cons (.t rfl) .nil)) (.cons (.b (.a (.own rfl rfl rfl (take_all (by simp only [len_map, put_len, markCheckS_len, markInt64S_len] <;> rfl)) (by simp only [len_map, put_len, markCheckS_len, markInt64S_len] <;> rfl)))) (.cons (.b (.a (.same rfl))) .nil)) (fun hg => c_laws_heldInt64S (m_laws_markInt64S (m_impl_SpreadChecks (m_laws_toCheckS aList) aFrom aPerDay).1 1).2 1) rfl (fun _ => rfl) rfl <|
              q_assign .n (.t rfl) rfl <|
              Lex.nil) ?_
          refine run_seq ?_
          refine run_seq ?_
          refine run_region (q_move .n (.t rfl) rfl <|
              q_int .n (.t rfl) (.c rfl) rfl rfl <|
              Lex.nil) ?_
          refine run_cond (.t rfl) rfl (fun h6 => ?_) (fun h6 => ?_)
          · try simp only [Bool.and_eq_true, Bool.or_eq_true, Bool.not_eq_true', Bool.and_eq_false_iff, Bool.or_eq_false_iff, Bool.not_eq_false', decide_eq_true_eq, decide_eq_false_iff_not, beq_iff_eq, bne_iff_ne, beq_eq_false_iff_ne, bne_eq_false_iff_eq, Bool.true_and, ne_eq, Decidable.not_not, Int.not_lt, Int.not_le, Nat.not_lt, Nat.not_le, strB_nil, strB_nil', strB_nnil, strB_nnil'] at h6
            refine run_seq ?_
            refine run_region (q_assign .n (.c rfl) rfl <|
                Lex.nil) ?_
            exact run_ret [] (.cons (.t rfl rfl) .nil) rfl trivial rfl
          · try simp only [Bool.and_eq_true, Bool.or_eq_true, Bool.not_eq_true', Bool.and_eq_false_iff, Bool.or_eq_false_iff, Bool.not_eq_false', decide_eq_true_eq, decide_eq_false_iff_not, beq_iff_eq, bne_iff_ne, beq_eq_false_iff_ne, bne_eq_false_iff_eq, Bool.true_and, ne_eq, Decidable.not_not, Int.not_lt, Int.not_le, Nat.not_lt, Nat.not_le, strB_nil, strB_nil', strB_nnil, strB_nnil'] at h6
            refine run_skip ?_
            refine run_seq ?_
            refine run_seq ?_
            refine run_region (q_move .n (.t rfl) rfl <|
                q_move .n (.t rfl) rfl <|
                q_int .n (.t rfl) (.t rfl) rfl rfl <|
                Lex.nil) ?_
            refine run_cond (.t rfl) rfl (fun h7 => ?_) (fun h7 => ?_)
            · try simp only [Bool.and_eq_true, Bool.or_eq_true, Bool.not_eq_true', Bool.and_eq_false_iff, Bool.or_eq_false_iff, Bool.not_eq_false', decide_eq_true_eq, decide_eq_false_iff_not, beq_iff_eq, bne_iff_ne, beq_eq_false_iff_ne, bne_eq_false_iff_eq, Bool.true_and, ne_eq, Decidable.not_not, Int.not_lt, Int.not_le, Nat.not_lt, Nat.not_le, strB_nil, strB_nil', strB_nnil, strB_nnil'] at h7
              refine run_seq ?_
              refine run_region (q_assign .n (.c rfl) rfl <|
                  Lex.nil) ?_
              exact run_ret [] (.cons (.t rfl rfl) .nil) rfl trivial rfl
            · try simp only [Bool.and_eq_true, Bool.or_eq_true, Bool.not_eq_true', Bool.and_eq_false_iff, Bool.or_eq_false_iff, Bool.not_eq_false', decide_eq_true_eq, decide_eq_false_iff_not, beq_iff_eq, bne_iff_ne, beq_eq_false_iff_ne, bne_eq_false_iff_eq, Bool.true_and, ne_eq, Decidable.not_not, Int.not_lt, Int.not_le, Nat.not_lt, Nat.not_le, strB_nil, strB_nil', strB_nnil, strB_nnil'] at h7
              refine run_skip ?_
              refine run_seq ?_
              refine run_region (q_move .n (.t rfl) rfl <|
                  q_callM (full := false) [] [(100, 205)] .n rfl .f en_9 (.cons (.t rfl) .nil) (.cons (.b (.a (.same rfl))) .nil) (c_laws_toCheckS aList (by first | omega | assumption | (simp only [List.length_append, List.length_cons, List.length_nil, List.length_replicate, put_len] at * <;> omega) | (exact wr64_le) | ((simp only [toCheck_eq, toCheckS_eq] at *; omega)) | ((repeat (first | omega | refine markCheckS_le ?_ | refine markInt64S_le ?_))))) trivial rfl rfl (fun h => Bool.noConfusion h) (fun h => Bool.noConfusion h) rfl <|
                  q_move .n (.t rfl) rfl <|
                  q_move .n (.t rfl) rfl <|
                  q_callM (full := true) [] [(100, 206)] .n rfl .f en_10 (.cons (.t rfl) (.cons (.t rfl) (.cons (.t rfl) .nil))) (.cons (.b (.a (.own rfl rfl rfl (take_all (by simp only [len_map, put_len, markCheckS_len, markInt64S_len] <;> rfl)) (by simp only [len_map, put_len, markCheckS_len, markInt64S_len] <;> rfl)))) (.cons (.b (.a (.same rfl))) (.cons (.b (.a (.same rfl))) .nil))) (c_impl_SpreadChecks (m_laws_toCheckS aList) aFrom aPerDay) trivial rfl rfl (fun _ => rfl) (fun _ => (hr_row (fun _ => rfl) hr_nil)) rfl <|
                  q_move .n (.t rfl) rfl <|
                  q_ext .n (.t rfl) rfl rfl rfl <|
                  q_ext .n (.t rfl) rfl rfl rfl <|
                  q_assign .n (.t rfl) rfl <|
                  q_assign .n (.t rfl) rfl <|
                  Lex.nil) ?_
              refine run_seq ?_
              refine run_seq ?_
              refine run_region (q_move .n (.t rfl) rfl <|
                  q_move .n (.t rfl) rfl <|
                  q_call0 (full := true) .n .f en_11 (.cons (.t rfl) (.cons (.t rfl) .nil)) (.cons (.b (.a (.own rfl rfl rfl (take_all (by simp only [len_map, put_len, markCheckS_len, markInt64S_len] <;> rfl)) (by simp only [len_map, put_len, markCheckS_len, markInt64S_len] <;> rfl)))) (.cons (.b (.a (.own rfl rfl rfl (take_all (by simp only [len_map, put_len, markCheckS_len, markInt64S_len] <;> rfl)) (by simp only [len_map, put_len, markCheckS_len, markInt64S_len] <;> rfl)))) .nil)) (fun hg => c_laws_eqInt64S (m_impl_SpreadChecks (m_laws_toCheckS aList) aFrom aPerDay).1 (m_spec_SpreadChecks (m_laws_toCheckS aList) aFrom aPerDay).1) rfl (fun _ => rfl) rfl <|
                  q_not .n (.t rfl) rfl <|
                  q_move .n (.t rfl) rfl <|
                  q_move (.f rfl rfl) (.t rfl) rfl <|
                  q_move (.f rfl rfl) (.t rfl) rfl <|
                  q_int (.f rfl rfl) (.u rfl id) (.u rfl id) rfl rfl <|
                  q_or .n (.t rfl) (.u rfl id) rfl <|
                  Lex.nil) ?_
              refine run_cond (.t rfl) rfl (fun h8 => ?_) (fun h8 => ?_)
              · try simp only [Bool.and_eq_true, Bool.or_eq_true, Bool.not_eq_true', Bool.and_eq_false_iff, Bool.or_eq_false_iff, Bool.not_eq_false', decide_eq_true_eq, decide_eq_false_iff_not, beq_iff_eq, bne_iff_ne, beq_eq_false_iff_ne, bne_eq_false_iff_eq, Bool.true_and, ne_eq, Decidable.not_not, Int.not_lt, Int.not_le, Nat.not_lt, Nat.not_le, strB_nil, strB_nil', strB_nnil, strB_nnil'] at h8
                refine run_seq ?_
                refine run_region (q_assign .n (.c rfl) rfl <|
                    Lex.nil) ?_
                exact run_ret [] (.cons (.t rfl rfl) .nil) rfl trivial rfl
              · try simp only [Bool.and_eq_true, Bool.or_eq_true, Bool.not_eq_true', Bool.and_eq_false_iff, Bool.or_eq_false_iff, Bool.not_eq_false', decide_eq_true_eq, decide_eq_false_iff_not, beq_iff_eq, bne_iff_ne, beq_eq_false_iff_ne, bne_eq_false_iff_eq, Bool.true_and, ne_eq, Decidable.not_not, Int.not_lt, Int.not_le, Nat.not_lt, Nat.not_le, strB_nil, strB_nil', strB_nnil, strB_nnil'] at h8
                refine run_skip ?_
                refine run_seq ?_
                refine run_region (q_assign .n (.c rfl) rfl <|
                    Lex.nil) ?_
                refine run_seq ?_
                refine run_region (q_move .n (.t rfl) rfl <|
                    q_move .n (.t rfl) rfl <|
                    q_call0 (full := true) .n .f en_15 (.cons (.t rfl) (.cons (.t rfl) .nil)) (.cons (.b (.a (.own rfl rfl rfl (take_all (by simp only [len_map, put_len, markCheckS_len, markInt64S_len] <;> rfl)) (by simp only [len_map, put_len, markCheckS_len, markInt64S_len] <;> rfl)))) (.cons (.b (.a (.same rfl))) .nil)) (fun hg => c_laws_heldInt64S (m_laws_markInt64S (m_impl_SpreadChecks (m_laws_toCheckS aList) aFrom aPerDay).1 1).2 1) rfl (fun _ => rfl) rfl <|
                    q_assign .n (.t rfl) rfl <|
                    Lex.nil) ?_
                refine run_seq ?_
                refine run_seq ?_
                refine run_region (q_move .n (.t rfl) rfl <|
                    q_int .n (.t rfl) (.c rfl) rfl rfl <|
                    Lex.nil) ?_
                refine run_cond (.t rfl) rfl (fun h9 => ?_) (fun h9 => ?_)
                · try simp only [Bool.and_eq_true, Bool.or_eq_true, Bool.not_eq_true', Bool.and_eq_false_iff, Bool.or_eq_false_iff, Bool.not_eq_false', decide_eq_true_eq, decide_eq_false_iff_not, beq_iff_eq, bne_iff_ne, beq_eq_false_iff_ne, bne_eq_false_iff_eq, Bool.true_and, ne_eq, Decidable.not_not, Int.not_lt, Int.not_le, Nat.not_lt, Nat.not_le, strB_nil, strB_nil', strB_nnil, strB_nnil'] at h9
                  refine run_seq ?_
                  refine run_region (q_assign .n (.c rfl) rfl <|
                      Lex.nil) ?_
                  exact run_ret [] (.cons (.t rfl rfl) .nil) rfl trivial rfl
                · try simp only [Bool.and_eq_true, Bool.or_eq_true, Bool.not_eq_true', Bool.and_eq_false_iff, Bool.or_eq_false_iff, Bool.not_eq_false', decide_eq_true_eq, decide_eq_false_iff_not, beq_iff_eq, bne_iff_ne, beq_eq_false_iff_ne, bne_eq_false_iff_eq, Bool.true_and, ne_eq, Decidable.not_not, Int.not_lt, Int.not_le, Nat.not_lt, Nat.not_le, strB_nil, strB_nil', strB_nnil, strB_nnil'] at h9
                  refine run_skip ?_
                  refine run_seq ?_
                  refine run_seq ?_
                  refine run_region (q_move .n (.t rfl) rfl <|
                      q_move .n (.t rfl) rfl <|
                      q_int .n (.t rfl) (.t rfl) rfl rfl <|
                      Lex.nil) ?_
                  refine run_cond (.t rfl) rfl (fun h10 => ?_) (fun h10 => ?_)
                  · try simp only [Bool.and_eq_true, Bool.or_eq_true, Bool.not_eq_true', Bool.and_eq_false_iff, Bool.or_eq_false_iff, Bool.not_eq_false', decide_eq_true_eq, decide_eq_false_iff_not, beq_iff_eq, bne_iff_ne, beq_eq_false_iff_ne, bne_eq_false_iff_eq, Bool.true_and, ne_eq, Decidable.not_not, Int.not_lt, Int.not_le, Nat.not_lt, Nat.not_le, strB_nil, strB_nil', strB_nnil, strB_nnil'] at h10
                    refine run_seq ?_
                    refine run_region (q_assign .n (.c rfl) rfl <|
                        Lex.nil) ?_
                    exact run_ret [] (.cons (.t rfl rfl) .nil) rfl trivial rfl
                  · try simp only [Bool.and_eq_true, Bool.or_eq_true, Bool.not_eq_true', Bool.and_eq_false_iff, Bool.or_eq_false_iff, Bool.not_eq_false', decide_eq_true_eq, decide_eq_false_iff_not, beq_iff_eq, bne_iff_ne, beq_eq_false_iff_ne, bne_eq_false_iff_eq, Bool.true_and, ne_eq, Decidable.not_not, Int.not_lt, Int.not_le, Nat.not_lt, Nat.not_le, strB_nil, strB_nil', strB_nnil, strB_nnil'] at h10
                    refine run_skip ?_
                    refine run_seq ?_
                    refine run_region (q_assign .n (.c rfl) rfl <|
                        Lex.nil) ?_
                    exact run_ret [] (.cons (.t rfl rfl) .nil) rfl trivial rfl

end Go.Proofs.Ytbeppnhplglocaa
